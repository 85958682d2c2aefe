/-
  No cell of these rows narrows 'for every input' (looked for: loops, veiled, ifaces, maps, wideKeys, modest, calm, conditions, laid).
  DERIVED. THE GIVEN ROWS OF THIS SEAT. 12 by the template 'for every input the law returns true; each argument reads behind the call as it read before'; 0 by the template 'total and deterministic' (their statements: YtkmckalckafloaaTotals.lean).
  GIVEN WITH THE SEED: the statements are not yours to turn. If you find one false, say at which input.
  Laid BY PROGRAM, IN A SANDBOX (cutbox-rows.mjs): the forced cells as the released guide's own fill.sh prints them over the translation 1b67656f7228cbce… (all of the seat's roots in one cut). By AI agents, Wed Nov 11 2026. No macro, syntax, notation, axiom, sorry.
-/
import Derived.Test.YtkmckalckafloaaChecked
import GoSem.Claim
import GoSem.ClaimJoined
import GoSem.ClaimMapViews
import Derived.JoinedTies
import Derived.KernelRfl
namespace Go.Proofs.Ytkmckalckafloaa
/- THE CELL 'sum', in the pinned program and in every row, IS THE sha256 OF THE DUMP (.gsa) THAT YtkmckalckafloaaProg.lean LOADS. Nothing in Lean hashes anything: it is a label: what it is worth is what the hold of that sum in a sandbox is worth. -/
noncomputable def Try.pinned : Pinned := { name := "ytkmckalckafloaa", sum := "1b67656f7228cbcecad55621dac3feba60676decccdb49e1fb51776c2c12caea", checked := Try.checked }
namespace Rows
def none {H : Type} : Left H := { results := [], args := [] }

/-- 'laws.FnExactTabSame': WHATEVER THE INPUT: true; the input reads as it did. -/
def fnExactTabSameSpec : ChangeSpec := { name := "fnExactTabSame", fn := fun _ => fun
  | [d1, d2] => { results := [.lit (.bool true)], args := [d1, d2] }
  | _ => none }
def fnExactTabSameRow : OpenClaim := { program := "ytkmckalckafloaa", sum := "1b67656f7228cbcecad55621dac3feba60676decccdb49e1fb51776c2c12caea", func := "loop.example/freshet/laws.FnExactTabSame", spec := "fnExactTabSame", apart := false }
def FnExactTabSameSaid : Prop := fnExactTabSameRow.holds Try.pinned (OpenSpec.ofChange fnExactTabSameSpec)

/-- ITS FALSE NEIGHBOUR: 'it returns false'. Refute it at one input. -/
def fnExactTabSameWrong : ChangeSpec := { name := "fnExactTabSame", fn := fun _ => fun
  | [d1, d2] => { results := [.lit (.bool false)], args := [d1, d2] }
  | _ => none }
def FnExactTabSameWrongFalsely : Prop := fnExactTabSameRow.holds Try.pinned (OpenSpec.ofChange fnExactTabSameWrong)

/-- 'laws.FnExactTabFind': WHATEVER THE INPUT: true; the input reads as it did. -/
def fnExactTabFindSpec : ChangeSpec := { name := "fnExactTabFind", fn := fun _ => fun
  | [d1, d2, d3] => { results := [.lit (.bool true)], args := [d1, d2, d3] }
  | _ => none }
def fnExactTabFindRow : OpenClaim := { program := "ytkmckalckafloaa", sum := "1b67656f7228cbcecad55621dac3feba60676decccdb49e1fb51776c2c12caea", func := "loop.example/freshet/laws.FnExactTabFind", spec := "fnExactTabFind", unfollowed := true, recurses := true, apart := false }
def FnExactTabFindSaid : Prop := fnExactTabFindRow.holds Try.pinned (OpenSpec.ofChange fnExactTabFindSpec)

/-- ITS FALSE NEIGHBOUR: 'it returns false'. Refute it at one input. -/
def fnExactTabFindWrong : ChangeSpec := { name := "fnExactTabFind", fn := fun _ => fun
  | [d1, d2, d3] => { results := [.lit (.bool false)], args := [d1, d2, d3] }
  | _ => none }
def FnExactTabFindWrongFalsely : Prop := fnExactTabFindRow.holds Try.pinned (OpenSpec.ofChange fnExactTabFindWrong)

/-- 'laws.FnExactLogOk': WHATEVER THE INPUT: true; the input reads as it did. -/
def fnExactLogOkSpec : ChangeSpec := { name := "fnExactLogOk", fn := fun _ => fun
  | [d] => { results := [.lit (.bool true)], args := [d] }
  | _ => none }
def fnExactLogOkRow : OpenClaim := { program := "ytkmckalckafloaa", sum := "1b67656f7228cbcecad55621dac3feba60676decccdb49e1fb51776c2c12caea", func := "loop.example/freshet/laws.FnExactLogOk", spec := "fnExactLogOk", apart := false }
def FnExactLogOkSaid : Prop := fnExactLogOkRow.holds Try.pinned (OpenSpec.ofChange fnExactLogOkSpec)

/-- ITS FALSE NEIGHBOUR: 'it returns false'. Refute it at one input. -/
def fnExactLogOkWrong : ChangeSpec := { name := "fnExactLogOk", fn := fun _ => fun
  | [d] => { results := [.lit (.bool false)], args := [d] }
  | _ => none }
def FnExactLogOkWrongFalsely : Prop := fnExactLogOkRow.holds Try.pinned (OpenSpec.ofChange fnExactLogOkWrong)

/-- 'laws.FnExactLogRecs': WHATEVER THE INPUT: true; the input reads as it did. -/
def fnExactLogRecsSpec : ChangeSpec := { name := "fnExactLogRecs", fn := fun _ => fun
  | [d1, d2] => { results := [.lit (.bool true)], args := [d1, d2] }
  | _ => none }
def fnExactLogRecsRow : OpenClaim := { program := "ytkmckalckafloaa", sum := "1b67656f7228cbcecad55621dac3feba60676decccdb49e1fb51776c2c12caea", func := "loop.example/freshet/laws.FnExactLogRecs", spec := "fnExactLogRecs", apart := false }
def FnExactLogRecsSaid : Prop := fnExactLogRecsRow.holds Try.pinned (OpenSpec.ofChange fnExactLogRecsSpec)

/-- ITS FALSE NEIGHBOUR: 'it returns false'. Refute it at one input. -/
def fnExactLogRecsWrong : ChangeSpec := { name := "fnExactLogRecs", fn := fun _ => fun
  | [d1, d2] => { results := [.lit (.bool false)], args := [d1, d2] }
  | _ => none }
def FnExactLogRecsWrongFalsely : Prop := fnExactLogRecsRow.holds Try.pinned (OpenSpec.ofChange fnExactLogRecsWrong)

/-- 'laws.FnWinStep': WHATEVER THE INPUT: true; the input reads as it did. -/
def fnWinStepSpec : ChangeSpec := { name := "fnWinStep", fn := fun _ => fun
  | [d] => { results := [.lit (.bool true)], args := [d] }
  | _ => none }
def fnWinStepRow : OpenClaim := { program := "ytkmckalckafloaa", sum := "1b67656f7228cbcecad55621dac3feba60676decccdb49e1fb51776c2c12caea", func := "loop.example/freshet/laws.FnWinStep", spec := "fnWinStep", apart := false }
def FnWinStepSaid : Prop := fnWinStepRow.holds Try.pinned (OpenSpec.ofChange fnWinStepSpec)

/-- ITS FALSE NEIGHBOUR: 'it returns false'. Refute it at one input. -/
def fnWinStepWrong : ChangeSpec := { name := "fnWinStep", fn := fun _ => fun
  | [d] => { results := [.lit (.bool false)], args := [d] }
  | _ => none }
def FnWinStepWrongFalsely : Prop := fnWinStepRow.holds Try.pinned (OpenSpec.ofChange fnWinStepWrong)

/-- 'laws.FnExactWinOf': WHATEVER THE INPUT: true; the input reads as it did. -/
def fnExactWinOfSpec : ChangeSpec := { name := "fnExactWinOf", fn := fun _ => fun
  | [d1, d2] => { results := [.lit (.bool true)], args := [d1, d2] }
  | _ => none }
def fnExactWinOfRow : OpenClaim := { program := "ytkmckalckafloaa", sum := "1b67656f7228cbcecad55621dac3feba60676decccdb49e1fb51776c2c12caea", func := "loop.example/freshet/laws.FnExactWinOf", spec := "fnExactWinOf", apart := false }
def FnExactWinOfSaid : Prop := fnExactWinOfRow.holds Try.pinned (OpenSpec.ofChange fnExactWinOfSpec)

/-- ITS FALSE NEIGHBOUR: 'it returns false'. Refute it at one input. -/
def fnExactWinOfWrong : ChangeSpec := { name := "fnExactWinOf", fn := fun _ => fun
  | [d1, d2] => { results := [.lit (.bool false)], args := [d1, d2] }
  | _ => none }
def FnExactWinOfWrongFalsely : Prop := fnExactWinOfRow.holds Try.pinned (OpenSpec.ofChange fnExactWinOfWrong)

/-- 'laws.FnSpcWithout': WHATEVER THE INPUT: true; the input reads as it did. -/
def fnSpcWithoutSpec : ChangeSpec := { name := "fnSpcWithout", fn := fun _ => fun
  | [d] => { results := [.lit (.bool true)], args := [d] }
  | _ => none }
def fnSpcWithoutRow : OpenClaim := { program := "ytkmckalckafloaa", sum := "1b67656f7228cbcecad55621dac3feba60676decccdb49e1fb51776c2c12caea", func := "loop.example/freshet/laws.FnSpcWithout", spec := "fnSpcWithout", apart := false }
def FnSpcWithoutSaid : Prop := fnSpcWithoutRow.holds Try.pinned (OpenSpec.ofChange fnSpcWithoutSpec)

/-- ITS FALSE NEIGHBOUR: 'it returns false'. Refute it at one input. -/
def fnSpcWithoutWrong : ChangeSpec := { name := "fnSpcWithout", fn := fun _ => fun
  | [d] => { results := [.lit (.bool false)], args := [d] }
  | _ => none }
def FnSpcWithoutWrongFalsely : Prop := fnSpcWithoutRow.holds Try.pinned (OpenSpec.ofChange fnSpcWithoutWrong)

/-- 'laws.FnLogRecs': WHATEVER THE INPUT: true; the input reads as it did. -/
def fnLogRecsSpec : ChangeSpec := { name := "fnLogRecs", fn := fun _ => fun
  | [d] => { results := [.lit (.bool true)], args := [d] }
  | _ => none }
def fnLogRecsRow : OpenClaim := { program := "ytkmckalckafloaa", sum := "1b67656f7228cbcecad55621dac3feba60676decccdb49e1fb51776c2c12caea", func := "loop.example/freshet/laws.FnLogRecs", spec := "fnLogRecs", apart := false }
def FnLogRecsSaid : Prop := fnLogRecsRow.holds Try.pinned (OpenSpec.ofChange fnLogRecsSpec)

/-- ITS FALSE NEIGHBOUR: 'it returns false'. Refute it at one input. -/
def fnLogRecsWrong : ChangeSpec := { name := "fnLogRecs", fn := fun _ => fun
  | [d] => { results := [.lit (.bool false)], args := [d] }
  | _ => none }
def FnLogRecsWrongFalsely : Prop := fnLogRecsRow.holds Try.pinned (OpenSpec.ofChange fnLogRecsWrong)

/-- 'laws.FnLatRecs': WHATEVER THE INPUT: true; the input reads as it did. -/
def fnLatRecsSpec : ChangeSpec := { name := "fnLatRecs", fn := fun _ => fun
  | [d] => { results := [.lit (.bool true)], args := [d] }
  | _ => none }
def fnLatRecsRow : OpenClaim := { program := "ytkmckalckafloaa", sum := "1b67656f7228cbcecad55621dac3feba60676decccdb49e1fb51776c2c12caea", func := "loop.example/freshet/laws.FnLatRecs", spec := "fnLatRecs", apart := false }
def FnLatRecsSaid : Prop := fnLatRecsRow.holds Try.pinned (OpenSpec.ofChange fnLatRecsSpec)

/-- ITS FALSE NEIGHBOUR: 'it returns false'. Refute it at one input. -/
def fnLatRecsWrong : ChangeSpec := { name := "fnLatRecs", fn := fun _ => fun
  | [d] => { results := [.lit (.bool false)], args := [d] }
  | _ => none }
def FnLatRecsWrongFalsely : Prop := fnLatRecsRow.holds Try.pinned (OpenSpec.ofChange fnLatRecsWrong)

/-- 'laws.FnWinOf': WHATEVER THE INPUT: true; the input reads as it did. -/
def fnWinOfSpec : ChangeSpec := { name := "fnWinOf", fn := fun _ => fun
  | [d] => { results := [.lit (.bool true)], args := [d] }
  | _ => none }
def fnWinOfRow : OpenClaim := { program := "ytkmckalckafloaa", sum := "1b67656f7228cbcecad55621dac3feba60676decccdb49e1fb51776c2c12caea", func := "loop.example/freshet/laws.FnWinOf", spec := "fnWinOf", apart := false }
def FnWinOfSaid : Prop := fnWinOfRow.holds Try.pinned (OpenSpec.ofChange fnWinOfSpec)

/-- ITS FALSE NEIGHBOUR: 'it returns false'. Refute it at one input. -/
def fnWinOfWrong : ChangeSpec := { name := "fnWinOf", fn := fun _ => fun
  | [d] => { results := [.lit (.bool false)], args := [d] }
  | _ => none }
def FnWinOfWrongFalsely : Prop := fnWinOfRow.holds Try.pinned (OpenSpec.ofChange fnWinOfWrong)

/-- 'laws.FnExactSpcWithout': WHATEVER THE INPUT: true; the input reads as it did. -/
def fnExactSpcWithoutSpec : ChangeSpec := { name := "fnExactSpcWithout", fn := fun _ => fun
  | [d1, d2] => { results := [.lit (.bool true)], args := [d1, d2] }
  | _ => none }
def fnExactSpcWithoutRow : OpenClaim := { program := "ytkmckalckafloaa", sum := "1b67656f7228cbcecad55621dac3feba60676decccdb49e1fb51776c2c12caea", func := "loop.example/freshet/laws.FnExactSpcWithout", spec := "fnExactSpcWithout", apart := false }
def FnExactSpcWithoutSaid : Prop := fnExactSpcWithoutRow.holds Try.pinned (OpenSpec.ofChange fnExactSpcWithoutSpec)

/-- ITS FALSE NEIGHBOUR: 'it returns false'. Refute it at one input. -/
def fnExactSpcWithoutWrong : ChangeSpec := { name := "fnExactSpcWithout", fn := fun _ => fun
  | [d1, d2] => { results := [.lit (.bool false)], args := [d1, d2] }
  | _ => none }
def FnExactSpcWithoutWrongFalsely : Prop := fnExactSpcWithoutRow.holds Try.pinned (OpenSpec.ofChange fnExactSpcWithoutWrong)

/-- 'laws.FnPanOf': WHATEVER THE INPUT: true; the input reads as it did. -/
def fnPanOfSpec : ChangeSpec := { name := "fnPanOf", fn := fun _ => fun
  | [d] => { results := [.lit (.bool true)], args := [d] }
  | _ => none }
def fnPanOfRow : OpenClaim := { program := "ytkmckalckafloaa", sum := "1b67656f7228cbcecad55621dac3feba60676decccdb49e1fb51776c2c12caea", func := "loop.example/freshet/laws.FnPanOf", spec := "fnPanOf", apart := false }
def FnPanOfSaid : Prop := fnPanOfRow.holds Try.pinned (OpenSpec.ofChange fnPanOfSpec)

/-- ITS FALSE NEIGHBOUR: 'it returns false'. Refute it at one input. -/
def fnPanOfWrong : ChangeSpec := { name := "fnPanOf", fn := fun _ => fun
  | [d] => { results := [.lit (.bool false)], args := [d] }
  | _ => none }
def FnPanOfWrongFalsely : Prop := fnPanOfRow.holds Try.pinned (OpenSpec.ofChange fnPanOfWrong)

/- THE SECOND FORM. 'bulk': how many values and letters a reading holds, each counted each time it is reached (what is shared counts as often as it is met; a slice's spare places count too). A statement '..UptoSaid' is the law's where the arguments, and the package variables that the reading takes, are together of bulk at most 1048576: NARROWER than '..Said'. Prove '..Said' where nothing that the law and all that it calls make is longer than what came in: it says more and counts as full. Else prove '..UptoSaid'. A law counts once. -/
mutual
def uptoBulk {H : Type} : DataW H → Nat
  | .lit (.string bytes) => bytes.length + 1
  | .lit _ => 1
  | .nil => 1
  | .ptr d => uptoBulk d + 1
  | .slice elems spare => uptoBulkAll elems + uptoBulkAll spare + 1
  | .agg parts => uptoBulkAll parts + 1
  | .iface _ d => uptoBulk d + 1
  | .map entries => uptoBulkEntries entries + 1
  | .held _ => 1
def uptoBulkAll {H : Type} : List (DataW H) → Nat
  | [] => 0
  | d :: r => uptoBulk d + uptoBulkAll r
def uptoBulkEntries {H : Type} : List (Lit × DataW H) → Nat
  | [] => 0
  | x :: r => uptoBulkEntry x + uptoBulkEntries r
def uptoBulkEntry {H : Type} : Lit × DataW H → Nat
  | (.string bytes, d) => bytes.length + uptoBulk d + 1
  | (_, d) => uptoBulk d + 1
 end
def uptoSmall : (H : Type) → List (DataW H) → Bool := fun _ ds => decide (uptoBulkAll ds ≤ 1048576)
def OpenSpec.upto (s : _root_.Go.ChangeSpec) : _root_.Go.OpenSpec := { _root_.Go.OpenSpec.ofChange s with cond := some uptoSmall }

/-- 'laws.FnExactTabSame', WHERE WHAT IT READS IS OF BULK AT MOST 1048576: true; the input reads as it did. -/
def fnExactTabSameUptoRow : OpenClaim := { program := "ytkmckalckafloaa", sum := "1b67656f7228cbcecad55621dac3feba60676decccdb49e1fb51776c2c12caea", func := "loop.example/freshet/laws.FnExactTabSame", spec := "fnExactTabSame", apart := false, narrowed := true }
def FnExactTabSameUptoSaid : Prop := fnExactTabSameUptoRow.holds Try.pinned (OpenSpec.upto fnExactTabSameSpec)

/-- 'laws.FnExactTabFind', WHERE WHAT IT READS IS OF BULK AT MOST 1048576: true; the input reads as it did. -/
def fnExactTabFindUptoRow : OpenClaim := { program := "ytkmckalckafloaa", sum := "1b67656f7228cbcecad55621dac3feba60676decccdb49e1fb51776c2c12caea", func := "loop.example/freshet/laws.FnExactTabFind", spec := "fnExactTabFind", unfollowed := true, recurses := true, apart := false, narrowed := true }
def FnExactTabFindUptoSaid : Prop := fnExactTabFindUptoRow.holds Try.pinned (OpenSpec.upto fnExactTabFindSpec)

/-- 'laws.FnExactLogOk', WHERE WHAT IT READS IS OF BULK AT MOST 1048576: true; the input reads as it did. -/
def fnExactLogOkUptoRow : OpenClaim := { program := "ytkmckalckafloaa", sum := "1b67656f7228cbcecad55621dac3feba60676decccdb49e1fb51776c2c12caea", func := "loop.example/freshet/laws.FnExactLogOk", spec := "fnExactLogOk", apart := false, narrowed := true }
def FnExactLogOkUptoSaid : Prop := fnExactLogOkUptoRow.holds Try.pinned (OpenSpec.upto fnExactLogOkSpec)

/-- 'laws.FnExactLogRecs', WHERE WHAT IT READS IS OF BULK AT MOST 1048576: true; the input reads as it did. -/
def fnExactLogRecsUptoRow : OpenClaim := { program := "ytkmckalckafloaa", sum := "1b67656f7228cbcecad55621dac3feba60676decccdb49e1fb51776c2c12caea", func := "loop.example/freshet/laws.FnExactLogRecs", spec := "fnExactLogRecs", apart := false, narrowed := true }
def FnExactLogRecsUptoSaid : Prop := fnExactLogRecsUptoRow.holds Try.pinned (OpenSpec.upto fnExactLogRecsSpec)

/-- 'laws.FnWinStep', WHERE WHAT IT READS IS OF BULK AT MOST 1048576: true; the input reads as it did. -/
def fnWinStepUptoRow : OpenClaim := { program := "ytkmckalckafloaa", sum := "1b67656f7228cbcecad55621dac3feba60676decccdb49e1fb51776c2c12caea", func := "loop.example/freshet/laws.FnWinStep", spec := "fnWinStep", apart := false, narrowed := true }
def FnWinStepUptoSaid : Prop := fnWinStepUptoRow.holds Try.pinned (OpenSpec.upto fnWinStepSpec)

/-- 'laws.FnExactWinOf', WHERE WHAT IT READS IS OF BULK AT MOST 1048576: true; the input reads as it did. -/
def fnExactWinOfUptoRow : OpenClaim := { program := "ytkmckalckafloaa", sum := "1b67656f7228cbcecad55621dac3feba60676decccdb49e1fb51776c2c12caea", func := "loop.example/freshet/laws.FnExactWinOf", spec := "fnExactWinOf", apart := false, narrowed := true }
def FnExactWinOfUptoSaid : Prop := fnExactWinOfUptoRow.holds Try.pinned (OpenSpec.upto fnExactWinOfSpec)

/-- 'laws.FnSpcWithout', WHERE WHAT IT READS IS OF BULK AT MOST 1048576: true; the input reads as it did. -/
def fnSpcWithoutUptoRow : OpenClaim := { program := "ytkmckalckafloaa", sum := "1b67656f7228cbcecad55621dac3feba60676decccdb49e1fb51776c2c12caea", func := "loop.example/freshet/laws.FnSpcWithout", spec := "fnSpcWithout", apart := false, narrowed := true }
def FnSpcWithoutUptoSaid : Prop := fnSpcWithoutUptoRow.holds Try.pinned (OpenSpec.upto fnSpcWithoutSpec)

/-- 'laws.FnLogRecs', WHERE WHAT IT READS IS OF BULK AT MOST 1048576: true; the input reads as it did. -/
def fnLogRecsUptoRow : OpenClaim := { program := "ytkmckalckafloaa", sum := "1b67656f7228cbcecad55621dac3feba60676decccdb49e1fb51776c2c12caea", func := "loop.example/freshet/laws.FnLogRecs", spec := "fnLogRecs", apart := false, narrowed := true }
def FnLogRecsUptoSaid : Prop := fnLogRecsUptoRow.holds Try.pinned (OpenSpec.upto fnLogRecsSpec)

/-- 'laws.FnLatRecs', WHERE WHAT IT READS IS OF BULK AT MOST 1048576: true; the input reads as it did. -/
def fnLatRecsUptoRow : OpenClaim := { program := "ytkmckalckafloaa", sum := "1b67656f7228cbcecad55621dac3feba60676decccdb49e1fb51776c2c12caea", func := "loop.example/freshet/laws.FnLatRecs", spec := "fnLatRecs", apart := false, narrowed := true }
def FnLatRecsUptoSaid : Prop := fnLatRecsUptoRow.holds Try.pinned (OpenSpec.upto fnLatRecsSpec)

/-- 'laws.FnWinOf', WHERE WHAT IT READS IS OF BULK AT MOST 1048576: true; the input reads as it did. -/
def fnWinOfUptoRow : OpenClaim := { program := "ytkmckalckafloaa", sum := "1b67656f7228cbcecad55621dac3feba60676decccdb49e1fb51776c2c12caea", func := "loop.example/freshet/laws.FnWinOf", spec := "fnWinOf", apart := false, narrowed := true }
def FnWinOfUptoSaid : Prop := fnWinOfUptoRow.holds Try.pinned (OpenSpec.upto fnWinOfSpec)

/-- 'laws.FnExactSpcWithout', WHERE WHAT IT READS IS OF BULK AT MOST 1048576: true; the input reads as it did. -/
def fnExactSpcWithoutUptoRow : OpenClaim := { program := "ytkmckalckafloaa", sum := "1b67656f7228cbcecad55621dac3feba60676decccdb49e1fb51776c2c12caea", func := "loop.example/freshet/laws.FnExactSpcWithout", spec := "fnExactSpcWithout", apart := false, narrowed := true }
def FnExactSpcWithoutUptoSaid : Prop := fnExactSpcWithoutUptoRow.holds Try.pinned (OpenSpec.upto fnExactSpcWithoutSpec)

/-- 'laws.FnPanOf', WHERE WHAT IT READS IS OF BULK AT MOST 1048576: true; the input reads as it did. -/
def fnPanOfUptoRow : OpenClaim := { program := "ytkmckalckafloaa", sum := "1b67656f7228cbcecad55621dac3feba60676decccdb49e1fb51776c2c12caea", func := "loop.example/freshet/laws.FnPanOf", spec := "fnPanOf", apart := false, narrowed := true }
def FnPanOfUptoSaid : Prop := fnPanOfUptoRow.holds Try.pinned (OpenSpec.upto fnPanOfSpec)

end Rows
end Go.Proofs.Ytkmckalckafloaa
