/-
  No cell of these rows narrows 'for every input' (looked for: loops, veiled, ifaces, maps, wideKeys, modest, calm, conditions, laid).
  DERIVED. THE GIVEN ROWS OF THIS SEAT. 12 by the template 'for every input the law returns true; each argument reads behind the call as it read before'; 0 by the template 'total and deterministic' (their statements: YtjclmjmbhhlbcaaTotals.lean).
  GIVEN WITH THE SEED: the statements are not yours to turn. If you find one false, say at which input.
  Laid BY PROGRAM, IN A SANDBOX (cutbox-rows.mjs): the forced cells as the released guide's own fill.sh prints them over the translation b49f99ee65f9aca4… (all of the seat's roots in one cut). By AI agents, Wed Nov 11 2026. No macro, syntax, notation, axiom, sorry.
-/
import Derived.Test.YtjclmjmbhhlbcaaChecked
import GoSem.Claim
import GoSem.ClaimJoined
import GoSem.ClaimMapViews
import Derived.JoinedTies
import Derived.KernelRfl
namespace Go.Proofs.Ytjclmjmbhhlbcaa
/- THE CELL 'sum', in the pinned program and in every row, IS THE sha256 OF THE DUMP (.gsa) THAT YtjclmjmbhhlbcaaProg.lean LOADS. Nothing in Lean hashes anything: it is a label: what it is worth is what the hold of that sum in a sandbox is worth. -/
noncomputable def Try.pinned : Pinned := { name := "ytjclmjmbhhlbcaa", sum := "b49f99ee65f9aca40abc29bb9aa6298bb63b3721f7b12a6b59e33b5493fffec3", checked := Try.checked }
namespace Rows
def none {H : Type} : Left H := { results := [], args := [] }

/-- 'laws.FnExactConstants': WHATEVER THE INPUT: true; the input reads as it did. -/
def fnExactConstantsSpec : ChangeSpec := { name := "fnExactConstants", fn := fun _ => fun
  | [] => { results := [.lit (.bool true)], args := [] }
  | _ => none }
def fnExactConstantsRow : OpenClaim := { program := "ytjclmjmbhhlbcaa", sum := "b49f99ee65f9aca40abc29bb9aa6298bb63b3721f7b12a6b59e33b5493fffec3", func := "loop.example/freshet/laws.FnExactConstants", spec := "fnExactConstants", apart := false }
def FnExactConstantsSaid : Prop := fnExactConstantsRow.holds Try.pinned (OpenSpec.ofChange fnExactConstantsSpec)

/-- ITS FALSE NEIGHBOUR: 'it returns false'. Refute it at one input. -/
def fnExactConstantsWrong : ChangeSpec := { name := "fnExactConstants", fn := fun _ => fun
  | [] => { results := [.lit (.bool false)], args := [] }
  | _ => none }
def FnExactConstantsWrongFalsely : Prop := fnExactConstantsRow.holds Try.pinned (OpenSpec.ofChange fnExactConstantsWrong)

/-- 'laws.FnExactWinTouch': WHATEVER THE INPUT: true; the input reads as it did. -/
def fnExactWinTouchSpec : ChangeSpec := { name := "fnExactWinTouch", fn := fun _ => fun
  | [d1, d2] => { results := [.lit (.bool true)], args := [d1, d2] }
  | _ => none }
def fnExactWinTouchRow : OpenClaim := { program := "ytjclmjmbhhlbcaa", sum := "b49f99ee65f9aca40abc29bb9aa6298bb63b3721f7b12a6b59e33b5493fffec3", func := "loop.example/freshet/laws.FnExactWinTouch", spec := "fnExactWinTouch", apart := false }
def FnExactWinTouchSaid : Prop := fnExactWinTouchRow.holds Try.pinned (OpenSpec.ofChange fnExactWinTouchSpec)

/-- ITS FALSE NEIGHBOUR: 'it returns false'. Refute it at one input. -/
def fnExactWinTouchWrong : ChangeSpec := { name := "fnExactWinTouch", fn := fun _ => fun
  | [d1, d2] => { results := [.lit (.bool false)], args := [d1, d2] }
  | _ => none }
def FnExactWinTouchWrongFalsely : Prop := fnExactWinTouchRow.holds Try.pinned (OpenSpec.ofChange fnExactWinTouchWrong)

/-- 'laws.FnExactWinOk': WHATEVER THE INPUT: true; the input reads as it did. -/
def fnExactWinOkSpec : ChangeSpec := { name := "fnExactWinOk", fn := fun _ => fun
  | [d] => { results := [.lit (.bool true)], args := [d] }
  | _ => none }
def fnExactWinOkRow : OpenClaim := { program := "ytjclmjmbhhlbcaa", sum := "b49f99ee65f9aca40abc29bb9aa6298bb63b3721f7b12a6b59e33b5493fffec3", func := "loop.example/freshet/laws.FnExactWinOk", spec := "fnExactWinOk", apart := false }
def FnExactWinOkSaid : Prop := fnExactWinOkRow.holds Try.pinned (OpenSpec.ofChange fnExactWinOkSpec)

/-- ITS FALSE NEIGHBOUR: 'it returns false'. Refute it at one input. -/
def fnExactWinOkWrong : ChangeSpec := { name := "fnExactWinOk", fn := fun _ => fun
  | [d] => { results := [.lit (.bool false)], args := [d] }
  | _ => none }
def FnExactWinOkWrongFalsely : Prop := fnExactWinOkRow.holds Try.pinned (OpenSpec.ofChange fnExactWinOkWrong)

/-- 'laws.FnExactAggOk': WHATEVER THE INPUT: true; the input reads as it did. -/
def fnExactAggOkSpec : ChangeSpec := { name := "fnExactAggOk", fn := fun _ => fun
  | [d] => { results := [.lit (.bool true)], args := [d] }
  | _ => none }
def fnExactAggOkRow : OpenClaim := { program := "ytjclmjmbhhlbcaa", sum := "b49f99ee65f9aca40abc29bb9aa6298bb63b3721f7b12a6b59e33b5493fffec3", func := "loop.example/freshet/laws.FnExactAggOk", spec := "fnExactAggOk", apart := false }
def FnExactAggOkSaid : Prop := fnExactAggOkRow.holds Try.pinned (OpenSpec.ofChange fnExactAggOkSpec)

/-- ITS FALSE NEIGHBOUR: 'it returns false'. Refute it at one input. -/
def fnExactAggOkWrong : ChangeSpec := { name := "fnExactAggOk", fn := fun _ => fun
  | [d] => { results := [.lit (.bool false)], args := [d] }
  | _ => none }
def FnExactAggOkWrongFalsely : Prop := fnExactAggOkRow.holds Try.pinned (OpenSpec.ofChange fnExactAggOkWrong)

/-- 'laws.FnExactWinSpan': WHATEVER THE INPUT: true; the input reads as it did. -/
def fnExactWinSpanSpec : ChangeSpec := { name := "fnExactWinSpan", fn := fun _ => fun
  | [d1, d2] => { results := [.lit (.bool true)], args := [d1, d2] }
  | _ => none }
def fnExactWinSpanRow : OpenClaim := { program := "ytjclmjmbhhlbcaa", sum := "b49f99ee65f9aca40abc29bb9aa6298bb63b3721f7b12a6b59e33b5493fffec3", func := "loop.example/freshet/laws.FnExactWinSpan", spec := "fnExactWinSpan", apart := false }
def FnExactWinSpanSaid : Prop := fnExactWinSpanRow.holds Try.pinned (OpenSpec.ofChange fnExactWinSpanSpec)

/-- ITS FALSE NEIGHBOUR: 'it returns false'. Refute it at one input. -/
def fnExactWinSpanWrong : ChangeSpec := { name := "fnExactWinSpan", fn := fun _ => fun
  | [d1, d2] => { results := [.lit (.bool false)], args := [d1, d2] }
  | _ => none }
def FnExactWinSpanWrongFalsely : Prop := fnExactWinSpanRow.holds Try.pinned (OpenSpec.ofChange fnExactWinSpanWrong)

/-- 'laws.FnTabSame': WHATEVER THE INPUT: true; the input reads as it did. -/
def fnTabSameSpec : ChangeSpec := { name := "fnTabSame", fn := fun _ => fun
  | [d] => { results := [.lit (.bool true)], args := [d] }
  | _ => none }
def fnTabSameRow : OpenClaim := { program := "ytjclmjmbhhlbcaa", sum := "b49f99ee65f9aca40abc29bb9aa6298bb63b3721f7b12a6b59e33b5493fffec3", func := "loop.example/freshet/laws.FnTabSame", spec := "fnTabSame", apart := false }
def FnTabSameSaid : Prop := fnTabSameRow.holds Try.pinned (OpenSpec.ofChange fnTabSameSpec)

/-- ITS FALSE NEIGHBOUR: 'it returns false'. Refute it at one input. -/
def fnTabSameWrong : ChangeSpec := { name := "fnTabSame", fn := fun _ => fun
  | [d] => { results := [.lit (.bool false)], args := [d] }
  | _ => none }
def FnTabSameWrongFalsely : Prop := fnTabSameRow.holds Try.pinned (OpenSpec.ofChange fnTabSameWrong)

/-- 'laws.FnExactItmOk': WHATEVER THE INPUT: true; the input reads as it did. -/
def fnExactItmOkSpec : ChangeSpec := { name := "fnExactItmOk", fn := fun _ => fun
  | [d] => { results := [.lit (.bool true)], args := [d] }
  | _ => none }
def fnExactItmOkRow : OpenClaim := { program := "ytjclmjmbhhlbcaa", sum := "b49f99ee65f9aca40abc29bb9aa6298bb63b3721f7b12a6b59e33b5493fffec3", func := "loop.example/freshet/laws.FnExactItmOk", spec := "fnExactItmOk", apart := false }
def FnExactItmOkSaid : Prop := fnExactItmOkRow.holds Try.pinned (OpenSpec.ofChange fnExactItmOkSpec)

/-- ITS FALSE NEIGHBOUR: 'it returns false'. Refute it at one input. -/
def fnExactItmOkWrong : ChangeSpec := { name := "fnExactItmOk", fn := fun _ => fun
  | [d] => { results := [.lit (.bool false)], args := [d] }
  | _ => none }
def FnExactItmOkWrongFalsely : Prop := fnExactItmOkRow.holds Try.pinned (OpenSpec.ofChange fnExactItmOkWrong)

/-- 'laws.FnExactAggTell': WHATEVER THE INPUT: true; the input reads as it did. -/
def fnExactAggTellSpec : ChangeSpec := { name := "fnExactAggTell", fn := fun _ => fun
  | [d1, d2] => { results := [.lit (.bool true)], args := [d1, d2] }
  | _ => none }
def fnExactAggTellRow : OpenClaim := { program := "ytjclmjmbhhlbcaa", sum := "b49f99ee65f9aca40abc29bb9aa6298bb63b3721f7b12a6b59e33b5493fffec3", func := "loop.example/freshet/laws.FnExactAggTell", spec := "fnExactAggTell", apart := false }
def FnExactAggTellSaid : Prop := fnExactAggTellRow.holds Try.pinned (OpenSpec.ofChange fnExactAggTellSpec)

/-- ITS FALSE NEIGHBOUR: 'it returns false'. Refute it at one input. -/
def fnExactAggTellWrong : ChangeSpec := { name := "fnExactAggTell", fn := fun _ => fun
  | [d1, d2] => { results := [.lit (.bool false)], args := [d1, d2] }
  | _ => none }
def FnExactAggTellWrongFalsely : Prop := fnExactAggTellRow.holds Try.pinned (OpenSpec.ofChange fnExactAggTellWrong)

/-- 'laws.FnExactJobOk': WHATEVER THE INPUT: true; the input reads as it did. -/
def fnExactJobOkSpec : ChangeSpec := { name := "fnExactJobOk", fn := fun _ => fun
  | [d] => { results := [.lit (.bool true)], args := [d] }
  | _ => none }
def fnExactJobOkRow : OpenClaim := { program := "ytjclmjmbhhlbcaa", sum := "b49f99ee65f9aca40abc29bb9aa6298bb63b3721f7b12a6b59e33b5493fffec3", func := "loop.example/freshet/laws.FnExactJobOk", spec := "fnExactJobOk", apart := false }
def FnExactJobOkSaid : Prop := fnExactJobOkRow.holds Try.pinned (OpenSpec.ofChange fnExactJobOkSpec)

/-- ITS FALSE NEIGHBOUR: 'it returns false'. Refute it at one input. -/
def fnExactJobOkWrong : ChangeSpec := { name := "fnExactJobOk", fn := fun _ => fun
  | [d] => { results := [.lit (.bool false)], args := [d] }
  | _ => none }
def FnExactJobOkWrongFalsely : Prop := fnExactJobOkRow.holds Try.pinned (OpenSpec.ofChange fnExactJobOkWrong)

/-- 'laws.FnExactAggBoth': WHATEVER THE INPUT: true; the input reads as it did. -/
def fnExactAggBothSpec : ChangeSpec := { name := "fnExactAggBoth", fn := fun _ => fun
  | [d1, d2] => { results := [.lit (.bool true)], args := [d1, d2] }
  | _ => none }
def fnExactAggBothRow : OpenClaim := { program := "ytjclmjmbhhlbcaa", sum := "b49f99ee65f9aca40abc29bb9aa6298bb63b3721f7b12a6b59e33b5493fffec3", func := "loop.example/freshet/laws.FnExactAggBoth", spec := "fnExactAggBoth", apart := false }
def FnExactAggBothSaid : Prop := fnExactAggBothRow.holds Try.pinned (OpenSpec.ofChange fnExactAggBothSpec)

/-- ITS FALSE NEIGHBOUR: 'it returns false'. Refute it at one input. -/
def fnExactAggBothWrong : ChangeSpec := { name := "fnExactAggBoth", fn := fun _ => fun
  | [d1, d2] => { results := [.lit (.bool false)], args := [d1, d2] }
  | _ => none }
def FnExactAggBothWrongFalsely : Prop := fnExactAggBothRow.holds Try.pinned (OpenSpec.ofChange fnExactAggBothWrong)

/-- 'laws.FnTabOut': WHATEVER THE INPUT: true; the input reads as it did. -/
def fnTabOutSpec : ChangeSpec := { name := "fnTabOut", fn := fun _ => fun
  | [d] => { results := [.lit (.bool true)], args := [d] }
  | _ => none }
def fnTabOutRow : OpenClaim := { program := "ytjclmjmbhhlbcaa", sum := "b49f99ee65f9aca40abc29bb9aa6298bb63b3721f7b12a6b59e33b5493fffec3", func := "loop.example/freshet/laws.FnTabOut", spec := "fnTabOut", unfollowed := true, recurses := true, apart := false }
def FnTabOutSaid : Prop := fnTabOutRow.holds Try.pinned (OpenSpec.ofChange fnTabOutSpec)

/-- ITS FALSE NEIGHBOUR: 'it returns false'. Refute it at one input. -/
def fnTabOutWrong : ChangeSpec := { name := "fnTabOut", fn := fun _ => fun
  | [d] => { results := [.lit (.bool false)], args := [d] }
  | _ => none }
def FnTabOutWrongFalsely : Prop := fnTabOutRow.holds Try.pinned (OpenSpec.ofChange fnTabOutWrong)

/-- 'laws.FnExactJobTask': WHATEVER THE INPUT: true; the input reads as it did. -/
def fnExactJobTaskSpec : ChangeSpec := { name := "fnExactJobTask", fn := fun _ => fun
  | [d1, d2] => { results := [.lit (.bool true)], args := [d1, d2] }
  | _ => none }
def fnExactJobTaskRow : OpenClaim := { program := "ytjclmjmbhhlbcaa", sum := "b49f99ee65f9aca40abc29bb9aa6298bb63b3721f7b12a6b59e33b5493fffec3", func := "loop.example/freshet/laws.FnExactJobTask", spec := "fnExactJobTask", apart := false }
def FnExactJobTaskSaid : Prop := fnExactJobTaskRow.holds Try.pinned (OpenSpec.ofChange fnExactJobTaskSpec)

/-- ITS FALSE NEIGHBOUR: 'it returns false'. Refute it at one input. -/
def fnExactJobTaskWrong : ChangeSpec := { name := "fnExactJobTask", fn := fun _ => fun
  | [d1, d2] => { results := [.lit (.bool false)], args := [d1, d2] }
  | _ => none }
def FnExactJobTaskWrongFalsely : Prop := fnExactJobTaskRow.holds Try.pinned (OpenSpec.ofChange fnExactJobTaskWrong)

/- THE SECOND FORM. 'bulk': how many values and letters a reading holds, each counted each time it is reached (what is shared counts as often as it is met; a slice's spare places count too). A statement '..UptoSaid' is the law's where the arguments, and the package variables that the reading takes, are together of bulk at most 1048576: NARROWER than '..Said'. Prove '..Said' where nothing that the law and all that it calls make is longer than what came in: it says more and counts as full. Else prove '..UptoSaid'. A law counts once. -/
mutual
def uptoBulk {H : Type} : DataW H → Nat
  | .lit (.string bytes) => bytes.length + 1
  | .lit _ => 1
  | .nil => 1
  | .ptr d => uptoBulk d + 1
  | .slice elems spare => uptoBulkAll elems + uptoBulkAll spare + 1
  | .agg parts => uptoBulkAll parts + 1
  | .iface _ d => uptoBulk d + 1
  | .map entries => uptoBulkEntries entries + 1
  | .held _ => 1
def uptoBulkAll {H : Type} : List (DataW H) → Nat
  | [] => 0
  | d :: r => uptoBulk d + uptoBulkAll r
def uptoBulkEntries {H : Type} : List (Lit × DataW H) → Nat
  | [] => 0
  | x :: r => uptoBulkEntry x + uptoBulkEntries r
def uptoBulkEntry {H : Type} : Lit × DataW H → Nat
  | (.string bytes, d) => bytes.length + uptoBulk d + 1
  | (_, d) => uptoBulk d + 1
 end
def uptoSmall : (H : Type) → List (DataW H) → Bool := fun _ ds => decide (uptoBulkAll ds ≤ 1048576)
def OpenSpec.upto (s : _root_.Go.ChangeSpec) : _root_.Go.OpenSpec := { _root_.Go.OpenSpec.ofChange s with cond := some uptoSmall }

/-- 'laws.FnExactConstants', WHERE WHAT IT READS IS OF BULK AT MOST 1048576: true; the input reads as it did. -/
def fnExactConstantsUptoRow : OpenClaim := { program := "ytjclmjmbhhlbcaa", sum := "b49f99ee65f9aca40abc29bb9aa6298bb63b3721f7b12a6b59e33b5493fffec3", func := "loop.example/freshet/laws.FnExactConstants", spec := "fnExactConstants", apart := false, narrowed := true }
def FnExactConstantsUptoSaid : Prop := fnExactConstantsUptoRow.holds Try.pinned (OpenSpec.upto fnExactConstantsSpec)

/-- 'laws.FnExactWinTouch', WHERE WHAT IT READS IS OF BULK AT MOST 1048576: true; the input reads as it did. -/
def fnExactWinTouchUptoRow : OpenClaim := { program := "ytjclmjmbhhlbcaa", sum := "b49f99ee65f9aca40abc29bb9aa6298bb63b3721f7b12a6b59e33b5493fffec3", func := "loop.example/freshet/laws.FnExactWinTouch", spec := "fnExactWinTouch", apart := false, narrowed := true }
def FnExactWinTouchUptoSaid : Prop := fnExactWinTouchUptoRow.holds Try.pinned (OpenSpec.upto fnExactWinTouchSpec)

/-- 'laws.FnExactWinOk', WHERE WHAT IT READS IS OF BULK AT MOST 1048576: true; the input reads as it did. -/
def fnExactWinOkUptoRow : OpenClaim := { program := "ytjclmjmbhhlbcaa", sum := "b49f99ee65f9aca40abc29bb9aa6298bb63b3721f7b12a6b59e33b5493fffec3", func := "loop.example/freshet/laws.FnExactWinOk", spec := "fnExactWinOk", apart := false, narrowed := true }
def FnExactWinOkUptoSaid : Prop := fnExactWinOkUptoRow.holds Try.pinned (OpenSpec.upto fnExactWinOkSpec)

/-- 'laws.FnExactAggOk', WHERE WHAT IT READS IS OF BULK AT MOST 1048576: true; the input reads as it did. -/
def fnExactAggOkUptoRow : OpenClaim := { program := "ytjclmjmbhhlbcaa", sum := "b49f99ee65f9aca40abc29bb9aa6298bb63b3721f7b12a6b59e33b5493fffec3", func := "loop.example/freshet/laws.FnExactAggOk", spec := "fnExactAggOk", apart := false, narrowed := true }
def FnExactAggOkUptoSaid : Prop := fnExactAggOkUptoRow.holds Try.pinned (OpenSpec.upto fnExactAggOkSpec)

/-- 'laws.FnExactWinSpan', WHERE WHAT IT READS IS OF BULK AT MOST 1048576: true; the input reads as it did. -/
def fnExactWinSpanUptoRow : OpenClaim := { program := "ytjclmjmbhhlbcaa", sum := "b49f99ee65f9aca40abc29bb9aa6298bb63b3721f7b12a6b59e33b5493fffec3", func := "loop.example/freshet/laws.FnExactWinSpan", spec := "fnExactWinSpan", apart := false, narrowed := true }
def FnExactWinSpanUptoSaid : Prop := fnExactWinSpanUptoRow.holds Try.pinned (OpenSpec.upto fnExactWinSpanSpec)

/-- 'laws.FnTabSame', WHERE WHAT IT READS IS OF BULK AT MOST 1048576: true; the input reads as it did. -/
def fnTabSameUptoRow : OpenClaim := { program := "ytjclmjmbhhlbcaa", sum := "b49f99ee65f9aca40abc29bb9aa6298bb63b3721f7b12a6b59e33b5493fffec3", func := "loop.example/freshet/laws.FnTabSame", spec := "fnTabSame", apart := false, narrowed := true }
def FnTabSameUptoSaid : Prop := fnTabSameUptoRow.holds Try.pinned (OpenSpec.upto fnTabSameSpec)

/-- 'laws.FnExactItmOk', WHERE WHAT IT READS IS OF BULK AT MOST 1048576: true; the input reads as it did. -/
def fnExactItmOkUptoRow : OpenClaim := { program := "ytjclmjmbhhlbcaa", sum := "b49f99ee65f9aca40abc29bb9aa6298bb63b3721f7b12a6b59e33b5493fffec3", func := "loop.example/freshet/laws.FnExactItmOk", spec := "fnExactItmOk", apart := false, narrowed := true }
def FnExactItmOkUptoSaid : Prop := fnExactItmOkUptoRow.holds Try.pinned (OpenSpec.upto fnExactItmOkSpec)

/-- 'laws.FnExactAggTell', WHERE WHAT IT READS IS OF BULK AT MOST 1048576: true; the input reads as it did. -/
def fnExactAggTellUptoRow : OpenClaim := { program := "ytjclmjmbhhlbcaa", sum := "b49f99ee65f9aca40abc29bb9aa6298bb63b3721f7b12a6b59e33b5493fffec3", func := "loop.example/freshet/laws.FnExactAggTell", spec := "fnExactAggTell", apart := false, narrowed := true }
def FnExactAggTellUptoSaid : Prop := fnExactAggTellUptoRow.holds Try.pinned (OpenSpec.upto fnExactAggTellSpec)

/-- 'laws.FnExactJobOk', WHERE WHAT IT READS IS OF BULK AT MOST 1048576: true; the input reads as it did. -/
def fnExactJobOkUptoRow : OpenClaim := { program := "ytjclmjmbhhlbcaa", sum := "b49f99ee65f9aca40abc29bb9aa6298bb63b3721f7b12a6b59e33b5493fffec3", func := "loop.example/freshet/laws.FnExactJobOk", spec := "fnExactJobOk", apart := false, narrowed := true }
def FnExactJobOkUptoSaid : Prop := fnExactJobOkUptoRow.holds Try.pinned (OpenSpec.upto fnExactJobOkSpec)

/-- 'laws.FnExactAggBoth', WHERE WHAT IT READS IS OF BULK AT MOST 1048576: true; the input reads as it did. -/
def fnExactAggBothUptoRow : OpenClaim := { program := "ytjclmjmbhhlbcaa", sum := "b49f99ee65f9aca40abc29bb9aa6298bb63b3721f7b12a6b59e33b5493fffec3", func := "loop.example/freshet/laws.FnExactAggBoth", spec := "fnExactAggBoth", apart := false, narrowed := true }
def FnExactAggBothUptoSaid : Prop := fnExactAggBothUptoRow.holds Try.pinned (OpenSpec.upto fnExactAggBothSpec)

/-- 'laws.FnTabOut', WHERE WHAT IT READS IS OF BULK AT MOST 1048576: true; the input reads as it did. -/
def fnTabOutUptoRow : OpenClaim := { program := "ytjclmjmbhhlbcaa", sum := "b49f99ee65f9aca40abc29bb9aa6298bb63b3721f7b12a6b59e33b5493fffec3", func := "loop.example/freshet/laws.FnTabOut", spec := "fnTabOut", unfollowed := true, recurses := true, apart := false, narrowed := true }
def FnTabOutUptoSaid : Prop := fnTabOutUptoRow.holds Try.pinned (OpenSpec.upto fnTabOutSpec)

/-- 'laws.FnExactJobTask', WHERE WHAT IT READS IS OF BULK AT MOST 1048576: true; the input reads as it did. -/
def fnExactJobTaskUptoRow : OpenClaim := { program := "ytjclmjmbhhlbcaa", sum := "b49f99ee65f9aca40abc29bb9aa6298bb63b3721f7b12a6b59e33b5493fffec3", func := "loop.example/freshet/laws.FnExactJobTask", spec := "fnExactJobTask", apart := false, narrowed := true }
def FnExactJobTaskUptoSaid : Prop := fnExactJobTaskUptoRow.holds Try.pinned (OpenSpec.upto fnExactJobTaskSpec)

end Rows
end Go.Proofs.Ytjclmjmbhhlbcaa
