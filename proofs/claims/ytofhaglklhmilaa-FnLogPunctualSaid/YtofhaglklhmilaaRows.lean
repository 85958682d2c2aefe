/-
  No cell of these rows narrows 'for every input' (looked for: loops, veiled, ifaces, maps, wideKeys, modest, calm, conditions, laid).
  DERIVED. THE GIVEN ROWS OF THIS SEAT. 7 by the template 'for every input the law returns true; each argument reads behind the call as it read before'; 0 by the template 'total and deterministic' (their statements: YtofhaglklhmilaaTotals.lean).
  GIVEN WITH THE SEED: the statements are not yours to turn. If you find one false, say at which input.
  Laid BY PROGRAM, IN A SANDBOX (cutbox-rows.mjs): the forced cells as the released guide's own fill.sh prints them over the translation 77c7beaf5a34ee27… (all of the seat's roots in one cut). By AI agents, Wed Nov 11 2026. No macro, syntax, notation, axiom, sorry.
-/
import Derived.Test.YtofhaglklhmilaaChecked
import GoSem.Claim
import GoSem.ClaimJoined
import GoSem.ClaimMapViews
import Derived.JoinedTies
import Derived.KernelRfl
namespace Go.Proofs.Ytofhaglklhmilaa
/- THE CELL 'sum', in the pinned program and in every row, IS THE sha256 OF THE DUMP (.gsa) THAT YtofhaglklhmilaaProg.lean LOADS. Nothing in Lean hashes anything: it is a label: what it is worth is what the hold of that sum in a sandbox is worth. -/
noncomputable def Try.pinned : Pinned := { name := "ytofhaglklhmilaa", sum := "77c7beaf5a34ee272e323af9f73c6c828e8e94e697784e35e5152ba848d239de", checked := Try.checked }
namespace Rows
def none {H : Type} : Left H := { results := [], args := [] }

/-- 'laws.FnLogPunctual': WHATEVER THE INPUT: true; the input reads as it did. -/
def fnLogPunctualSpec : ChangeSpec := { name := "fnLogPunctual", fn := fun _ => fun
  | [d] => { results := [.lit (.bool true)], args := [d] }
  | _ => none }
def fnLogPunctualRow : OpenClaim := { program := "ytofhaglklhmilaa", sum := "77c7beaf5a34ee272e323af9f73c6c828e8e94e697784e35e5152ba848d239de", func := "loop.example/freshet/laws.FnLogPunctual", spec := "fnLogPunctual", apart := false }
def FnLogPunctualSaid : Prop := fnLogPunctualRow.holds Try.pinned (OpenSpec.ofChange fnLogPunctualSpec)

/-- ITS FALSE NEIGHBOUR: 'it returns false'. Refute it at one input. -/
def fnLogPunctualWrong : ChangeSpec := { name := "fnLogPunctual", fn := fun _ => fun
  | [d] => { results := [.lit (.bool false)], args := [d] }
  | _ => none }
def FnLogPunctualWrongFalsely : Prop := fnLogPunctualRow.holds Try.pinned (OpenSpec.ofChange fnLogPunctualWrong)

/-- 'laws.FnExactTabOut': WHATEVER THE INPUT: true; the input reads as it did. -/
def fnExactTabOutSpec : ChangeSpec := { name := "fnExactTabOut", fn := fun _ => fun
  | [d1, d2, d3] => { results := [.lit (.bool true)], args := [d1, d2, d3] }
  | _ => none }
def fnExactTabOutRow : OpenClaim := { program := "ytofhaglklhmilaa", sum := "77c7beaf5a34ee272e323af9f73c6c828e8e94e697784e35e5152ba848d239de", func := "loop.example/freshet/laws.FnExactTabOut", spec := "fnExactTabOut", apart := false }
def FnExactTabOutSaid : Prop := fnExactTabOutRow.holds Try.pinned (OpenSpec.ofChange fnExactTabOutSpec)

/-- ITS FALSE NEIGHBOUR: 'it returns false'. Refute it at one input. -/
def fnExactTabOutWrong : ChangeSpec := { name := "fnExactTabOut", fn := fun _ => fun
  | [d1, d2, d3] => { results := [.lit (.bool false)], args := [d1, d2, d3] }
  | _ => none }
def FnExactTabOutWrongFalsely : Prop := fnExactTabOutRow.holds Try.pinned (OpenSpec.ofChange fnExactTabOutWrong)

/-- 'laws.FnAggFold': WHATEVER THE INPUT: true; the input reads as it did. -/
def fnAggFoldSpec : ChangeSpec := { name := "fnAggFold", fn := fun _ => fun
  | [d] => { results := [.lit (.bool true)], args := [d] }
  | _ => none }
def fnAggFoldRow : OpenClaim := { program := "ytofhaglklhmilaa", sum := "77c7beaf5a34ee272e323af9f73c6c828e8e94e697784e35e5152ba848d239de", func := "loop.example/freshet/laws.FnAggFold", spec := "fnAggFold", apart := false }
def FnAggFoldSaid : Prop := fnAggFoldRow.holds Try.pinned (OpenSpec.ofChange fnAggFoldSpec)

/-- ITS FALSE NEIGHBOUR: 'it returns false'. Refute it at one input. -/
def fnAggFoldWrong : ChangeSpec := { name := "fnAggFold", fn := fun _ => fun
  | [d] => { results := [.lit (.bool false)], args := [d] }
  | _ => none }
def FnAggFoldWrongFalsely : Prop := fnAggFoldRow.holds Try.pinned (OpenSpec.ofChange fnAggFoldWrong)

/-- 'laws.FnLogOk': WHATEVER THE INPUT: true; the input reads as it did. -/
def fnLogOkSpec : ChangeSpec := { name := "fnLogOk", fn := fun _ => fun
  | [d] => { results := [.lit (.bool true)], args := [d] }
  | _ => none }
def fnLogOkRow : OpenClaim := { program := "ytofhaglklhmilaa", sum := "77c7beaf5a34ee272e323af9f73c6c828e8e94e697784e35e5152ba848d239de", func := "loop.example/freshet/laws.FnLogOk", spec := "fnLogOk", apart := false }
def FnLogOkSaid : Prop := fnLogOkRow.holds Try.pinned (OpenSpec.ofChange fnLogOkSpec)

/-- ITS FALSE NEIGHBOUR: 'it returns false'. Refute it at one input. -/
def fnLogOkWrong : ChangeSpec := { name := "fnLogOk", fn := fun _ => fun
  | [d] => { results := [.lit (.bool false)], args := [d] }
  | _ => none }
def FnLogOkWrongFalsely : Prop := fnLogOkRow.holds Try.pinned (OpenSpec.ofChange fnLogOkWrong)

/-- 'laws.FnExactLatRecs': WHATEVER THE INPUT: true; the input reads as it did. -/
def fnExactLatRecsSpec : ChangeSpec := { name := "fnExactLatRecs", fn := fun _ => fun
  | [d] => { results := [.lit (.bool true)], args := [d] }
  | _ => none }
def fnExactLatRecsRow : OpenClaim := { program := "ytofhaglklhmilaa", sum := "77c7beaf5a34ee272e323af9f73c6c828e8e94e697784e35e5152ba848d239de", func := "loop.example/freshet/laws.FnExactLatRecs", spec := "fnExactLatRecs", apart := false }
def FnExactLatRecsSaid : Prop := fnExactLatRecsRow.holds Try.pinned (OpenSpec.ofChange fnExactLatRecsSpec)

/-- ITS FALSE NEIGHBOUR: 'it returns false'. Refute it at one input. -/
def fnExactLatRecsWrong : ChangeSpec := { name := "fnExactLatRecs", fn := fun _ => fun
  | [d] => { results := [.lit (.bool false)], args := [d] }
  | _ => none }
def FnExactLatRecsWrongFalsely : Prop := fnExactLatRecsRow.holds Try.pinned (OpenSpec.ofChange fnExactLatRecsWrong)

/-- 'laws.FnExactPanOf': WHATEVER THE INPUT: true; the input reads as it did. -/
def fnExactPanOfSpec : ChangeSpec := { name := "fnExactPanOf", fn := fun _ => fun
  | [d1, d2, d3] => { results := [.lit (.bool true)], args := [d1, d2, d3] }
  | _ => none }
def fnExactPanOfRow : OpenClaim := { program := "ytofhaglklhmilaa", sum := "77c7beaf5a34ee272e323af9f73c6c828e8e94e697784e35e5152ba848d239de", func := "loop.example/freshet/laws.FnExactPanOf", spec := "fnExactPanOf", apart := false }
def FnExactPanOfSaid : Prop := fnExactPanOfRow.holds Try.pinned (OpenSpec.ofChange fnExactPanOfSpec)

/-- ITS FALSE NEIGHBOUR: 'it returns false'. Refute it at one input. -/
def fnExactPanOfWrong : ChangeSpec := { name := "fnExactPanOf", fn := fun _ => fun
  | [d1, d2, d3] => { results := [.lit (.bool false)], args := [d1, d2, d3] }
  | _ => none }
def FnExactPanOfWrongFalsely : Prop := fnExactPanOfRow.holds Try.pinned (OpenSpec.ofChange fnExactPanOfWrong)

/-- 'laws.FnExactPanSound': WHATEVER THE INPUT: true; the input reads as it did. -/
def fnExactPanSoundSpec : ChangeSpec := { name := "fnExactPanSound", fn := fun _ => fun
  | [d] => { results := [.lit (.bool true)], args := [d] }
  | _ => none }
def fnExactPanSoundRow : OpenClaim := { program := "ytofhaglklhmilaa", sum := "77c7beaf5a34ee272e323af9f73c6c828e8e94e697784e35e5152ba848d239de", func := "loop.example/freshet/laws.FnExactPanSound", spec := "fnExactPanSound", unfollowed := true, recurses := true, apart := false }
def FnExactPanSoundSaid : Prop := fnExactPanSoundRow.holds Try.pinned (OpenSpec.ofChange fnExactPanSoundSpec)

/-- ITS FALSE NEIGHBOUR: 'it returns false'. Refute it at one input. -/
def fnExactPanSoundWrong : ChangeSpec := { name := "fnExactPanSound", fn := fun _ => fun
  | [d] => { results := [.lit (.bool false)], args := [d] }
  | _ => none }
def FnExactPanSoundWrongFalsely : Prop := fnExactPanSoundRow.holds Try.pinned (OpenSpec.ofChange fnExactPanSoundWrong)

/- THE SECOND FORM. 'bulk': how many values and letters a reading holds, each counted each time it is reached (what is shared counts as often as it is met; a slice's spare places count too). A statement '..UptoSaid' is the law's where the arguments, and the package variables that the reading takes, are together of bulk at most 1048576: NARROWER than '..Said'. Prove '..Said' where nothing that the law and all that it calls make is longer than what came in: it says more and counts as full. Else prove '..UptoSaid'. A law counts once. -/
mutual
def uptoBulk {H : Type} : DataW H → Nat
  | .lit (.string bytes) => bytes.length + 1
  | .lit _ => 1
  | .nil => 1
  | .ptr d => uptoBulk d + 1
  | .slice elems spare => uptoBulkAll elems + uptoBulkAll spare + 1
  | .agg parts => uptoBulkAll parts + 1
  | .iface _ d => uptoBulk d + 1
  | .map entries => uptoBulkEntries entries + 1
  | .held _ => 1
def uptoBulkAll {H : Type} : List (DataW H) → Nat
  | [] => 0
  | d :: r => uptoBulk d + uptoBulkAll r
def uptoBulkEntries {H : Type} : List (Lit × DataW H) → Nat
  | [] => 0
  | x :: r => uptoBulkEntry x + uptoBulkEntries r
def uptoBulkEntry {H : Type} : Lit × DataW H → Nat
  | (.string bytes, d) => bytes.length + uptoBulk d + 1
  | (_, d) => uptoBulk d + 1
 end
def uptoSmall : (H : Type) → List (DataW H) → Bool := fun _ ds => decide (uptoBulkAll ds ≤ 1048576)
def OpenSpec.upto (s : _root_.Go.ChangeSpec) : _root_.Go.OpenSpec := { _root_.Go.OpenSpec.ofChange s with cond := some uptoSmall }

/-- 'laws.FnLogPunctual', WHERE WHAT IT READS IS OF BULK AT MOST 1048576: true; the input reads as it did. -/
def fnLogPunctualUptoRow : OpenClaim := { program := "ytofhaglklhmilaa", sum := "77c7beaf5a34ee272e323af9f73c6c828e8e94e697784e35e5152ba848d239de", func := "loop.example/freshet/laws.FnLogPunctual", spec := "fnLogPunctual", apart := false, narrowed := true }
def FnLogPunctualUptoSaid : Prop := fnLogPunctualUptoRow.holds Try.pinned (OpenSpec.upto fnLogPunctualSpec)

/-- 'laws.FnExactTabOut', WHERE WHAT IT READS IS OF BULK AT MOST 1048576: true; the input reads as it did. -/
def fnExactTabOutUptoRow : OpenClaim := { program := "ytofhaglklhmilaa", sum := "77c7beaf5a34ee272e323af9f73c6c828e8e94e697784e35e5152ba848d239de", func := "loop.example/freshet/laws.FnExactTabOut", spec := "fnExactTabOut", apart := false, narrowed := true }
def FnExactTabOutUptoSaid : Prop := fnExactTabOutUptoRow.holds Try.pinned (OpenSpec.upto fnExactTabOutSpec)

/-- 'laws.FnAggFold', WHERE WHAT IT READS IS OF BULK AT MOST 1048576: true; the input reads as it did. -/
def fnAggFoldUptoRow : OpenClaim := { program := "ytofhaglklhmilaa", sum := "77c7beaf5a34ee272e323af9f73c6c828e8e94e697784e35e5152ba848d239de", func := "loop.example/freshet/laws.FnAggFold", spec := "fnAggFold", apart := false, narrowed := true }
def FnAggFoldUptoSaid : Prop := fnAggFoldUptoRow.holds Try.pinned (OpenSpec.upto fnAggFoldSpec)

/-- 'laws.FnLogOk', WHERE WHAT IT READS IS OF BULK AT MOST 1048576: true; the input reads as it did. -/
def fnLogOkUptoRow : OpenClaim := { program := "ytofhaglklhmilaa", sum := "77c7beaf5a34ee272e323af9f73c6c828e8e94e697784e35e5152ba848d239de", func := "loop.example/freshet/laws.FnLogOk", spec := "fnLogOk", apart := false, narrowed := true }
def FnLogOkUptoSaid : Prop := fnLogOkUptoRow.holds Try.pinned (OpenSpec.upto fnLogOkSpec)

/-- 'laws.FnExactLatRecs', WHERE WHAT IT READS IS OF BULK AT MOST 1048576: true; the input reads as it did. -/
def fnExactLatRecsUptoRow : OpenClaim := { program := "ytofhaglklhmilaa", sum := "77c7beaf5a34ee272e323af9f73c6c828e8e94e697784e35e5152ba848d239de", func := "loop.example/freshet/laws.FnExactLatRecs", spec := "fnExactLatRecs", apart := false, narrowed := true }
def FnExactLatRecsUptoSaid : Prop := fnExactLatRecsUptoRow.holds Try.pinned (OpenSpec.upto fnExactLatRecsSpec)

/-- 'laws.FnExactPanOf', WHERE WHAT IT READS IS OF BULK AT MOST 1048576: true; the input reads as it did. -/
def fnExactPanOfUptoRow : OpenClaim := { program := "ytofhaglklhmilaa", sum := "77c7beaf5a34ee272e323af9f73c6c828e8e94e697784e35e5152ba848d239de", func := "loop.example/freshet/laws.FnExactPanOf", spec := "fnExactPanOf", apart := false, narrowed := true }
def FnExactPanOfUptoSaid : Prop := fnExactPanOfUptoRow.holds Try.pinned (OpenSpec.upto fnExactPanOfSpec)

/-- 'laws.FnExactPanSound', WHERE WHAT IT READS IS OF BULK AT MOST 1048576: true; the input reads as it did. -/
def fnExactPanSoundUptoRow : OpenClaim := { program := "ytofhaglklhmilaa", sum := "77c7beaf5a34ee272e323af9f73c6c828e8e94e697784e35e5152ba848d239de", func := "loop.example/freshet/laws.FnExactPanSound", spec := "fnExactPanSound", unfollowed := true, recurses := true, apart := false, narrowed := true }
def FnExactPanSoundUptoSaid : Prop := fnExactPanSoundUptoRow.holds Try.pinned (OpenSpec.upto fnExactPanSoundSpec)

end Rows
end Go.Proofs.Ytofhaglklhmilaa
