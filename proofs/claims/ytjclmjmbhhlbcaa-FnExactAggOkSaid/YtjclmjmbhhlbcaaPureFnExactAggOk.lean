/- The law FnExactAggOk over numbers: its printed function answers true. No condition but that each number is one of its kind. -/
import Derived.Test.YtjclmjmbhhlbcaaPFnExactAggOkx2
set_option linter.unusedVariables false
set_option linter.unusedSimpArgs false
namespace Go.Proofs.Ytjclmjmbhhlbcaa.Pure
open Go.RowKit Go.Proofs.Ytjclmjmbhhlbcaa.PFnExactAggOk Go.Proofs.YtjclmjmbhhlbcaaW.PrintWords Go.Proofs.YtjclmjmbhhlbcaaW.PrintLast

theorem FnExactAggOk : ∀ (a0_0 : Int) (a0_1 : Int) (a0_2 : Int) (a0_3 : Int), (Lit.int .i64 a0_0).wf = true → (Lit.int .i64 a0_1).wf = true → (Lit.int .i64 a0_2).wf = true → (Lit.int .i64 a0_3).wf = true → laws_FnExactAggOk.f a0_0 a0_1 a0_2 a0_3 = some true := by
  intro a0 a1 a2 a3 _ _ _ _
  have e : impl_AggOk.f a0 a1 a2 a3 = spec_AggOk.f a0 a1 a2 a3 := rfl
  have hin : ∀ a b c, spec_l1In.f a b c = some (decide (a ≥ b ∧ a ≤ c)) := by
    intro a b c
    unfold spec_l1In.f
    by_cases h : a ≥ b <;> simp [h]
  obtain ⟨r, h⟩ : ∃ r, spec_AggOk.f a0 a1 a2 a3 = some r := by
    unfold spec_AggOk.f
    simp only [hin, Option.bind_some]
    repeat' split
    all_goals exact ⟨_, rfl⟩
  simp [laws_FnExactAggOk.f, laws_toAggAgg.f, e, h]

end Go.Proofs.Ytjclmjmbhhlbcaa.Pure
