/-
  No cell of these rows narrows 'for every input' (looked for: loops, veiled, ifaces, maps, wideKeys, modest, calm, conditions, laid).
  DERIVED. THE GIVEN ROWS OF THIS SEAT. 11 by the template 'for every input the law returns true; each argument reads behind the call as it read before'; 0 by the template 'total and deterministic' (their statements: YtgmkfhgebinfgaaTotals.lean).
  GIVEN WITH THE SEED: the statements are not yours to turn. If you find one false, say at which input.
  Laid BY PROGRAM, IN A SANDBOX (cutbox-rows.mjs): the forced cells as the released guide's own fill.sh prints them over the translation cb67f20577b536b3… (all of the seat's roots in one cut). By AI agents, Wed Nov 11 2026. No macro, syntax, notation, axiom, sorry.
-/
import Derived.Test.YtgmkfhgebinfgaaChecked
import GoSem.Claim
import GoSem.ClaimJoined
import GoSem.ClaimMapViews
import Derived.JoinedTies
import Derived.KernelRfl
namespace Go.Proofs.Ytgmkfhgebinfgaa
/- THE CELL 'sum', in the pinned program and in every row, IS THE sha256 OF THE DUMP (.gsa) THAT YtgmkfhgebinfgaaProg.lean LOADS. Nothing in Lean hashes anything: it is a label: what it is worth is what the hold of that sum in a sandbox is worth. -/
noncomputable def Try.pinned : Pinned := { name := "ytgmkfhgebinfgaa", sum := "cb67f20577b536b39454b5d0500733eadb53ec974f3a875667775230440f7e0d", checked := Try.checked }
namespace Rows
def none {H : Type} : Left H := { results := [], args := [] }

/-- 'laws.FnExactAggAdd': WHATEVER THE INPUT: true; the input reads as it did. -/
def fnExactAggAddSpec : ChangeSpec := { name := "fnExactAggAdd", fn := fun _ => fun
  | [d1, d2] => { results := [.lit (.bool true)], args := [d1, d2] }
  | _ => none }
def fnExactAggAddRow : OpenClaim := { program := "ytgmkfhgebinfgaa", sum := "cb67f20577b536b39454b5d0500733eadb53ec974f3a875667775230440f7e0d", func := "loop.example/freshet/laws.FnExactAggAdd", spec := "fnExactAggAdd", apart := false }
def FnExactAggAddSaid : Prop := fnExactAggAddRow.holds Try.pinned (OpenSpec.ofChange fnExactAggAddSpec)

/-- ITS FALSE NEIGHBOUR: 'it returns false'. Refute it at one input. -/
def fnExactAggAddWrong : ChangeSpec := { name := "fnExactAggAdd", fn := fun _ => fun
  | [d1, d2] => { results := [.lit (.bool false)], args := [d1, d2] }
  | _ => none }
def FnExactAggAddWrongFalsely : Prop := fnExactAggAddRow.holds Try.pinned (OpenSpec.ofChange fnExactAggAddWrong)

/-- 'laws.FnExactLatOk': WHATEVER THE INPUT: true; the input reads as it did. -/
def fnExactLatOkSpec : ChangeSpec := { name := "fnExactLatOk", fn := fun _ => fun
  | [d] => { results := [.lit (.bool true)], args := [d] }
  | _ => none }
def fnExactLatOkRow : OpenClaim := { program := "ytgmkfhgebinfgaa", sum := "cb67f20577b536b39454b5d0500733eadb53ec974f3a875667775230440f7e0d", func := "loop.example/freshet/laws.FnExactLatOk", spec := "fnExactLatOk", apart := false }
def FnExactLatOkSaid : Prop := fnExactLatOkRow.holds Try.pinned (OpenSpec.ofChange fnExactLatOkSpec)

/-- ITS FALSE NEIGHBOUR: 'it returns false'. Refute it at one input. -/
def fnExactLatOkWrong : ChangeSpec := { name := "fnExactLatOk", fn := fun _ => fun
  | [d] => { results := [.lit (.bool false)], args := [d] }
  | _ => none }
def FnExactLatOkWrongFalsely : Prop := fnExactLatOkRow.holds Try.pinned (OpenSpec.ofChange fnExactLatOkWrong)

/-- 'laws.FnWinTouch': WHATEVER THE INPUT: true; the input reads as it did. -/
def fnWinTouchSpec : ChangeSpec := { name := "fnWinTouch", fn := fun _ => fun
  | [d] => { results := [.lit (.bool true)], args := [d] }
  | _ => none }
def fnWinTouchRow : OpenClaim := { program := "ytgmkfhgebinfgaa", sum := "cb67f20577b536b39454b5d0500733eadb53ec974f3a875667775230440f7e0d", func := "loop.example/freshet/laws.FnWinTouch", spec := "fnWinTouch", apart := false }
def FnWinTouchSaid : Prop := fnWinTouchRow.holds Try.pinned (OpenSpec.ofChange fnWinTouchSpec)

/-- ITS FALSE NEIGHBOUR: 'it returns false'. Refute it at one input. -/
def fnWinTouchWrong : ChangeSpec := { name := "fnWinTouch", fn := fun _ => fun
  | [d] => { results := [.lit (.bool false)], args := [d] }
  | _ => none }
def FnWinTouchWrongFalsely : Prop := fnWinTouchRow.holds Try.pinned (OpenSpec.ofChange fnWinTouchWrong)

/-- 'laws.FnWinSpan': WHATEVER THE INPUT: true; the input reads as it did. -/
def fnWinSpanSpec : ChangeSpec := { name := "fnWinSpan", fn := fun _ => fun
  | [d] => { results := [.lit (.bool true)], args := [d] }
  | _ => none }
def fnWinSpanRow : OpenClaim := { program := "ytgmkfhgebinfgaa", sum := "cb67f20577b536b39454b5d0500733eadb53ec974f3a875667775230440f7e0d", func := "loop.example/freshet/laws.FnWinSpan", spec := "fnWinSpan", apart := false }
def FnWinSpanSaid : Prop := fnWinSpanRow.holds Try.pinned (OpenSpec.ofChange fnWinSpanSpec)

/-- ITS FALSE NEIGHBOUR: 'it returns false'. Refute it at one input. -/
def fnWinSpanWrong : ChangeSpec := { name := "fnWinSpan", fn := fun _ => fun
  | [d] => { results := [.lit (.bool false)], args := [d] }
  | _ => none }
def FnWinSpanWrongFalsely : Prop := fnWinSpanRow.holds Try.pinned (OpenSpec.ofChange fnWinSpanWrong)

/-- 'laws.FnExactPanOk': WHATEVER THE INPUT: true; the input reads as it did. -/
def fnExactPanOkSpec : ChangeSpec := { name := "fnExactPanOk", fn := fun _ => fun
  | [d] => { results := [.lit (.bool true)], args := [d] }
  | _ => none }
def fnExactPanOkRow : OpenClaim := { program := "ytgmkfhgebinfgaa", sum := "cb67f20577b536b39454b5d0500733eadb53ec974f3a875667775230440f7e0d", func := "loop.example/freshet/laws.FnExactPanOk", spec := "fnExactPanOk", apart := false }
def FnExactPanOkSaid : Prop := fnExactPanOkRow.holds Try.pinned (OpenSpec.ofChange fnExactPanOkSpec)

/-- ITS FALSE NEIGHBOUR: 'it returns false'. Refute it at one input. -/
def fnExactPanOkWrong : ChangeSpec := { name := "fnExactPanOk", fn := fun _ => fun
  | [d] => { results := [.lit (.bool false)], args := [d] }
  | _ => none }
def FnExactPanOkWrongFalsely : Prop := fnExactPanOkRow.holds Try.pinned (OpenSpec.ofChange fnExactPanOkWrong)

/-- 'laws.FnExactLogPunctual': WHATEVER THE INPUT: true; the input reads as it did. -/
def fnExactLogPunctualSpec : ChangeSpec := { name := "fnExactLogPunctual", fn := fun _ => fun
  | [d1, d2] => { results := [.lit (.bool true)], args := [d1, d2] }
  | _ => none }
def fnExactLogPunctualRow : OpenClaim := { program := "ytgmkfhgebinfgaa", sum := "cb67f20577b536b39454b5d0500733eadb53ec974f3a875667775230440f7e0d", func := "loop.example/freshet/laws.FnExactLogPunctual", spec := "fnExactLogPunctual", apart := false }
def FnExactLogPunctualSaid : Prop := fnExactLogPunctualRow.holds Try.pinned (OpenSpec.ofChange fnExactLogPunctualSpec)

/-- ITS FALSE NEIGHBOUR: 'it returns false'. Refute it at one input. -/
def fnExactLogPunctualWrong : ChangeSpec := { name := "fnExactLogPunctual", fn := fun _ => fun
  | [d1, d2] => { results := [.lit (.bool false)], args := [d1, d2] }
  | _ => none }
def FnExactLogPunctualWrongFalsely : Prop := fnExactLogPunctualRow.holds Try.pinned (OpenSpec.ofChange fnExactLogPunctualWrong)

/-- 'laws.FnAggBoth': WHATEVER THE INPUT: true; the input reads as it did. -/
def fnAggBothSpec : ChangeSpec := { name := "fnAggBoth", fn := fun _ => fun
  | [d1, d2] => { results := [.lit (.bool true)], args := [d1, d2] }
  | _ => none }
def fnAggBothRow : OpenClaim := { program := "ytgmkfhgebinfgaa", sum := "cb67f20577b536b39454b5d0500733eadb53ec974f3a875667775230440f7e0d", func := "loop.example/freshet/laws.FnAggBoth", spec := "fnAggBoth", apart := false }
def FnAggBothSaid : Prop := fnAggBothRow.holds Try.pinned (OpenSpec.ofChange fnAggBothSpec)

/-- ITS FALSE NEIGHBOUR: 'it returns false'. Refute it at one input. -/
def fnAggBothWrong : ChangeSpec := { name := "fnAggBoth", fn := fun _ => fun
  | [d1, d2] => { results := [.lit (.bool false)], args := [d1, d2] }
  | _ => none }
def FnAggBothWrongFalsely : Prop := fnAggBothRow.holds Try.pinned (OpenSpec.ofChange fnAggBothWrong)

/-- 'laws.FnAggAdd': WHATEVER THE INPUT: true; the input reads as it did. -/
def fnAggAddSpec : ChangeSpec := { name := "fnAggAdd", fn := fun _ => fun
  | [d] => { results := [.lit (.bool true)], args := [d] }
  | _ => none }
def fnAggAddRow : OpenClaim := { program := "ytgmkfhgebinfgaa", sum := "cb67f20577b536b39454b5d0500733eadb53ec974f3a875667775230440f7e0d", func := "loop.example/freshet/laws.FnAggAdd", spec := "fnAggAdd", apart := false }
def FnAggAddSaid : Prop := fnAggAddRow.holds Try.pinned (OpenSpec.ofChange fnAggAddSpec)

/-- ITS FALSE NEIGHBOUR: 'it returns false'. Refute it at one input. -/
def fnAggAddWrong : ChangeSpec := { name := "fnAggAdd", fn := fun _ => fun
  | [d] => { results := [.lit (.bool false)], args := [d] }
  | _ => none }
def FnAggAddWrongFalsely : Prop := fnAggAddRow.holds Try.pinned (OpenSpec.ofChange fnAggAddWrong)

/-- 'laws.FnExactTabCount': WHATEVER THE INPUT: true; the input reads as it did. -/
def fnExactTabCountSpec : ChangeSpec := { name := "fnExactTabCount", fn := fun _ => fun
  | [d] => { results := [.lit (.bool true)], args := [d] }
  | _ => none }
def fnExactTabCountRow : OpenClaim := { program := "ytgmkfhgebinfgaa", sum := "cb67f20577b536b39454b5d0500733eadb53ec974f3a875667775230440f7e0d", func := "loop.example/freshet/laws.FnExactTabCount", spec := "fnExactTabCount", apart := false }
def FnExactTabCountSaid : Prop := fnExactTabCountRow.holds Try.pinned (OpenSpec.ofChange fnExactTabCountSpec)

/-- ITS FALSE NEIGHBOUR: 'it returns false'. Refute it at one input. -/
def fnExactTabCountWrong : ChangeSpec := { name := "fnExactTabCount", fn := fun _ => fun
  | [d] => { results := [.lit (.bool false)], args := [d] }
  | _ => none }
def FnExactTabCountWrongFalsely : Prop := fnExactTabCountRow.holds Try.pinned (OpenSpec.ofChange fnExactTabCountWrong)

/-- 'laws.FnJobTask': WHATEVER THE INPUT: true; the input reads as it did. -/
def fnJobTaskSpec : ChangeSpec := { name := "fnJobTask", fn := fun _ => fun
  | [d] => { results := [.lit (.bool true)], args := [d] }
  | _ => none }
def fnJobTaskRow : OpenClaim := { program := "ytgmkfhgebinfgaa", sum := "cb67f20577b536b39454b5d0500733eadb53ec974f3a875667775230440f7e0d", func := "loop.example/freshet/laws.FnJobTask", spec := "fnJobTask", apart := false }
def FnJobTaskSaid : Prop := fnJobTaskRow.holds Try.pinned (OpenSpec.ofChange fnJobTaskSpec)

/-- ITS FALSE NEIGHBOUR: 'it returns false'. Refute it at one input. -/
def fnJobTaskWrong : ChangeSpec := { name := "fnJobTask", fn := fun _ => fun
  | [d] => { results := [.lit (.bool false)], args := [d] }
  | _ => none }
def FnJobTaskWrongFalsely : Prop := fnJobTaskRow.holds Try.pinned (OpenSpec.ofChange fnJobTaskWrong)

/-- 'laws.FnAggTell': WHATEVER THE INPUT: true; the input reads as it did. -/
def fnAggTellSpec : ChangeSpec := { name := "fnAggTell", fn := fun _ => fun
  | [d] => { results := [.lit (.bool true)], args := [d] }
  | _ => none }
def fnAggTellRow : OpenClaim := { program := "ytgmkfhgebinfgaa", sum := "cb67f20577b536b39454b5d0500733eadb53ec974f3a875667775230440f7e0d", func := "loop.example/freshet/laws.FnAggTell", spec := "fnAggTell", apart := false }
def FnAggTellSaid : Prop := fnAggTellRow.holds Try.pinned (OpenSpec.ofChange fnAggTellSpec)

/-- ITS FALSE NEIGHBOUR: 'it returns false'. Refute it at one input. -/
def fnAggTellWrong : ChangeSpec := { name := "fnAggTell", fn := fun _ => fun
  | [d] => { results := [.lit (.bool false)], args := [d] }
  | _ => none }
def FnAggTellWrongFalsely : Prop := fnAggTellRow.holds Try.pinned (OpenSpec.ofChange fnAggTellWrong)

/- THE SECOND FORM. 'bulk': how many values and letters a reading holds, each counted each time it is reached (what is shared counts as often as it is met; a slice's spare places count too). A statement '..UptoSaid' is the law's where the arguments, and the package variables that the reading takes, are together of bulk at most 1048576: NARROWER than '..Said'. Prove '..Said' where nothing that the law and all that it calls make is longer than what came in: it says more and counts as full. Else prove '..UptoSaid'. A law counts once. -/
mutual
def uptoBulk {H : Type} : DataW H → Nat
  | .lit (.string bytes) => bytes.length + 1
  | .lit _ => 1
  | .nil => 1
  | .ptr d => uptoBulk d + 1
  | .slice elems spare => uptoBulkAll elems + uptoBulkAll spare + 1
  | .agg parts => uptoBulkAll parts + 1
  | .iface _ d => uptoBulk d + 1
  | .map entries => uptoBulkEntries entries + 1
  | .held _ => 1
def uptoBulkAll {H : Type} : List (DataW H) → Nat
  | [] => 0
  | d :: r => uptoBulk d + uptoBulkAll r
def uptoBulkEntries {H : Type} : List (Lit × DataW H) → Nat
  | [] => 0
  | x :: r => uptoBulkEntry x + uptoBulkEntries r
def uptoBulkEntry {H : Type} : Lit × DataW H → Nat
  | (.string bytes, d) => bytes.length + uptoBulk d + 1
  | (_, d) => uptoBulk d + 1
 end
def uptoSmall : (H : Type) → List (DataW H) → Bool := fun _ ds => decide (uptoBulkAll ds ≤ 1048576)
def OpenSpec.upto (s : _root_.Go.ChangeSpec) : _root_.Go.OpenSpec := { _root_.Go.OpenSpec.ofChange s with cond := some uptoSmall }

/-- 'laws.FnExactAggAdd', WHERE WHAT IT READS IS OF BULK AT MOST 1048576: true; the input reads as it did. -/
def fnExactAggAddUptoRow : OpenClaim := { program := "ytgmkfhgebinfgaa", sum := "cb67f20577b536b39454b5d0500733eadb53ec974f3a875667775230440f7e0d", func := "loop.example/freshet/laws.FnExactAggAdd", spec := "fnExactAggAdd", apart := false, narrowed := true }
def FnExactAggAddUptoSaid : Prop := fnExactAggAddUptoRow.holds Try.pinned (OpenSpec.upto fnExactAggAddSpec)

/-- 'laws.FnExactLatOk', WHERE WHAT IT READS IS OF BULK AT MOST 1048576: true; the input reads as it did. -/
def fnExactLatOkUptoRow : OpenClaim := { program := "ytgmkfhgebinfgaa", sum := "cb67f20577b536b39454b5d0500733eadb53ec974f3a875667775230440f7e0d", func := "loop.example/freshet/laws.FnExactLatOk", spec := "fnExactLatOk", apart := false, narrowed := true }
def FnExactLatOkUptoSaid : Prop := fnExactLatOkUptoRow.holds Try.pinned (OpenSpec.upto fnExactLatOkSpec)

/-- 'laws.FnWinTouch', WHERE WHAT IT READS IS OF BULK AT MOST 1048576: true; the input reads as it did. -/
def fnWinTouchUptoRow : OpenClaim := { program := "ytgmkfhgebinfgaa", sum := "cb67f20577b536b39454b5d0500733eadb53ec974f3a875667775230440f7e0d", func := "loop.example/freshet/laws.FnWinTouch", spec := "fnWinTouch", apart := false, narrowed := true }
def FnWinTouchUptoSaid : Prop := fnWinTouchUptoRow.holds Try.pinned (OpenSpec.upto fnWinTouchSpec)

/-- 'laws.FnWinSpan', WHERE WHAT IT READS IS OF BULK AT MOST 1048576: true; the input reads as it did. -/
def fnWinSpanUptoRow : OpenClaim := { program := "ytgmkfhgebinfgaa", sum := "cb67f20577b536b39454b5d0500733eadb53ec974f3a875667775230440f7e0d", func := "loop.example/freshet/laws.FnWinSpan", spec := "fnWinSpan", apart := false, narrowed := true }
def FnWinSpanUptoSaid : Prop := fnWinSpanUptoRow.holds Try.pinned (OpenSpec.upto fnWinSpanSpec)

/-- 'laws.FnExactPanOk', WHERE WHAT IT READS IS OF BULK AT MOST 1048576: true; the input reads as it did. -/
def fnExactPanOkUptoRow : OpenClaim := { program := "ytgmkfhgebinfgaa", sum := "cb67f20577b536b39454b5d0500733eadb53ec974f3a875667775230440f7e0d", func := "loop.example/freshet/laws.FnExactPanOk", spec := "fnExactPanOk", apart := false, narrowed := true }
def FnExactPanOkUptoSaid : Prop := fnExactPanOkUptoRow.holds Try.pinned (OpenSpec.upto fnExactPanOkSpec)

/-- 'laws.FnExactLogPunctual', WHERE WHAT IT READS IS OF BULK AT MOST 1048576: true; the input reads as it did. -/
def fnExactLogPunctualUptoRow : OpenClaim := { program := "ytgmkfhgebinfgaa", sum := "cb67f20577b536b39454b5d0500733eadb53ec974f3a875667775230440f7e0d", func := "loop.example/freshet/laws.FnExactLogPunctual", spec := "fnExactLogPunctual", apart := false, narrowed := true }
def FnExactLogPunctualUptoSaid : Prop := fnExactLogPunctualUptoRow.holds Try.pinned (OpenSpec.upto fnExactLogPunctualSpec)

/-- 'laws.FnAggBoth', WHERE WHAT IT READS IS OF BULK AT MOST 1048576: true; the input reads as it did. -/
def fnAggBothUptoRow : OpenClaim := { program := "ytgmkfhgebinfgaa", sum := "cb67f20577b536b39454b5d0500733eadb53ec974f3a875667775230440f7e0d", func := "loop.example/freshet/laws.FnAggBoth", spec := "fnAggBoth", apart := false, narrowed := true }
def FnAggBothUptoSaid : Prop := fnAggBothUptoRow.holds Try.pinned (OpenSpec.upto fnAggBothSpec)

/-- 'laws.FnAggAdd', WHERE WHAT IT READS IS OF BULK AT MOST 1048576: true; the input reads as it did. -/
def fnAggAddUptoRow : OpenClaim := { program := "ytgmkfhgebinfgaa", sum := "cb67f20577b536b39454b5d0500733eadb53ec974f3a875667775230440f7e0d", func := "loop.example/freshet/laws.FnAggAdd", spec := "fnAggAdd", apart := false, narrowed := true }
def FnAggAddUptoSaid : Prop := fnAggAddUptoRow.holds Try.pinned (OpenSpec.upto fnAggAddSpec)

/-- 'laws.FnExactTabCount', WHERE WHAT IT READS IS OF BULK AT MOST 1048576: true; the input reads as it did. -/
def fnExactTabCountUptoRow : OpenClaim := { program := "ytgmkfhgebinfgaa", sum := "cb67f20577b536b39454b5d0500733eadb53ec974f3a875667775230440f7e0d", func := "loop.example/freshet/laws.FnExactTabCount", spec := "fnExactTabCount", apart := false, narrowed := true }
def FnExactTabCountUptoSaid : Prop := fnExactTabCountUptoRow.holds Try.pinned (OpenSpec.upto fnExactTabCountSpec)

/-- 'laws.FnJobTask', WHERE WHAT IT READS IS OF BULK AT MOST 1048576: true; the input reads as it did. -/
def fnJobTaskUptoRow : OpenClaim := { program := "ytgmkfhgebinfgaa", sum := "cb67f20577b536b39454b5d0500733eadb53ec974f3a875667775230440f7e0d", func := "loop.example/freshet/laws.FnJobTask", spec := "fnJobTask", apart := false, narrowed := true }
def FnJobTaskUptoSaid : Prop := fnJobTaskUptoRow.holds Try.pinned (OpenSpec.upto fnJobTaskSpec)

/-- 'laws.FnAggTell', WHERE WHAT IT READS IS OF BULK AT MOST 1048576: true; the input reads as it did. -/
def fnAggTellUptoRow : OpenClaim := { program := "ytgmkfhgebinfgaa", sum := "cb67f20577b536b39454b5d0500733eadb53ec974f3a875667775230440f7e0d", func := "loop.example/freshet/laws.FnAggTell", spec := "fnAggTell", apart := false, narrowed := true }
def FnAggTellUptoSaid : Prop := fnAggTellUptoRow.holds Try.pinned (OpenSpec.upto fnAggTellSpec)

end Rows
end Go.Proofs.Ytgmkfhgebinfgaa
