/- The law FnExactItmOk over numbers: its printed function answers true. No condition but that each number is one of its kind. -/
import Derived.Test.YtjclmjmbhhlbcaaPFnExactItmOkx1
set_option linter.unusedVariables false
set_option linter.unusedSimpArgs false
namespace Go.Proofs.Ytjclmjmbhhlbcaa.Pure
open Go.RowKit Go.Proofs.Ytjclmjmbhhlbcaa.PFnExactItmOk Go.Proofs.YtjclmjmbhhlbcaaW.PrintWords Go.Proofs.YtjclmjmbhhlbcaaW.PrintLast

theorem FnExactItmOk : ∀ (a0_0 : Int) (a0_1 : Int) (a0_2 : Int) (a0_3 : Int) (a0_4 : Int), (Lit.int .i64 a0_0).wf = true → (Lit.int .i64 a0_1).wf = true → (Lit.int .i64 a0_2).wf = true → (Lit.int .i64 a0_3).wf = true → (Lit.int .i64 a0_4).wf = true → laws_FnExactItmOk.f a0_0 a0_1 a0_2 a0_3 a0_4 = some true := by
  intro a0 a1 a2 a3 a4 _ _ _ _ _
  have e : impl_ItmOk.f a0 a1 a2 a3 a4 = spec_ItmOk.f a0 a1 a2 a3 a4 := rfl
  have hin : ∀ a b c, spec_l1In.f a b c = some (decide (a ≥ b ∧ a ≤ c)) := by
    intro a b c
    unfold spec_l1In.f
    by_cases h : a ≥ b <;> simp [h]
  obtain ⟨r, h⟩ : ∃ r, spec_ItmOk.f a0 a1 a2 a3 a4 = some r := by
    unfold spec_ItmOk.f
    simp only [hin, Option.bind_some]
    repeat' split
    all_goals exact ⟨_, rfl⟩
  simp [laws_FnExactItmOk.f, laws_toItmItem.f, e, h]

end Go.Proofs.Ytjclmjmbhhlbcaa.Pure
