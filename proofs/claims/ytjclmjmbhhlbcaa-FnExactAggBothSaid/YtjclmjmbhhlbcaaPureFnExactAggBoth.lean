/- The law FnExactAggBoth over numbers: its printed function answers true. No condition but that each number is one of its kind. -/
import Derived.Test.YtjclmjmbhhlbcaaHFnExactAggBothx2
set_option linter.unusedVariables false
set_option linter.unusedSimpArgs false
namespace Go.Proofs.Ytjclmjmbhhlbcaa.Pure
open Go.RowKit Go.Proofs.Ytjclmjmbhhlbcaa.PFnExactAggBoth Go.Proofs.YtjclmjmbhhlbcaaW.PrintWords Go.Proofs.YtjclmjmbhhlbcaaW.PrintLast

theorem FnExactAggBoth : ∀ (a0_0 : Int) (a0_1 : Int) (a0_2 : Int) (a0_3 : Int), (Lit.int .i64 a0_0).wf = true → (Lit.int .i64 a0_1).wf = true → (Lit.int .i64 a0_2).wf = true → (Lit.int .i64 a0_3).wf = true → ∀ (a1_0 : Int) (a1_1 : Int) (a1_2 : Int) (a1_3 : Int), (Lit.int .i64 a1_0).wf = true → (Lit.int .i64 a1_1).wf = true → (Lit.int .i64 a1_2).wf = true → (Lit.int .i64 a1_3).wf = true → laws_FnExactAggBoth.f a0_0 a0_1 a0_2 a0_3 a1_0 a1_1 a1_2 a1_3 = some true := by
  intro a0 a1 a2 a3 _ _ _ _ b0 b1 b2 b3 _ _ _ _
  have e : impl_AggBoth.f a0 a1 a2 a3 b0 b1 b2 b3 = spec_AggBoth.f a0 a1 a2 a3 b0 b1 b2 b3 := by
    unfold impl_AggBoth.f spec_AggBoth.f mn mx
    repeat' split
    all_goals simp_all
  obtain ⟨r, h⟩ : ∃ r, spec_AggBoth.f a0 a1 a2 a3 b0 b1 b2 b3 = some r := by
    unfold spec_AggBoth.f
    repeat' split
    all_goals exact ⟨_, rfl⟩
  simp [laws_FnExactAggBoth.f, laws_toAggAgg.f, e, h, laws_eqAggAgg.f]

end Go.Proofs.Ytjclmjmbhhlbcaa.Pure
