/- The law FnExactJobParse, as its tied card: at every rows of strings the call returns true, and its argument reads as it read. The five variables of the library's that the row lists are tied to the program's text by the given tie. -/
import Derived.Test.YtgmkfhgebinfgaaDoorLaw
import Derived.Test.YtgmkfhgebinfgaaDoorCards
import Derived.Test.YtgmkfhgebinfgaaDoorTie
import Derived.SevenTiedAt
set_option linter.unusedVariables false
namespace Go.Proofs.YtgmkfhgebinfgaaDoor
open Go
theorem fnExactJobParse_holds : Rows.FnExactJobParseCardSaid :=
  Claim7.holds_tied_plain_at .later [] [.data, .data, .data, .sentinel, .sentinel] true (true, "8e1d066fb2f319dd179666ad091c30b16c555d7af4de7f30ab1f8e7a124bf733") true
    row.over (fun _ h => by cases h) (by kernel_rfl) (fun _ h => by cases h) fnExactJobParse_row_tie rfl ⟨rfl, rfl⟩ (by kernel_rfl) rfl
    (fun f fn hf hfn => by
      obtain rfl : f = 3 := Option.some.inj ((show Tryd.prog.funcNamed "loop.example/freshet/laws.FnExactJobParse" = some 3 by kernel_rfl).symm.trans hf) |>.symm
      obtain rfl : fn = Tryd.f3 := (Option.some.inj (Tryd.func3.symm.trans hfn)).symm
      exact ⟨by kernel_rfl, fun j t ht => by
        rw [Tryd.params3] at ht
        have h3 : t = 22 := by
          rcases j with _ | j
          · simpa using ht.symm
          · simp at ht
        subst h3
        exact (show Tryd.prog.wantsStandIn 22 = false by kernel_rfl)⟩)
    (by kernel_rfl)
#print axioms fnExactJobParse_holds
end Go.Proofs.YtgmkfhgebinfgaaDoor
