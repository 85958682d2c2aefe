/- The law FnExactAggAdd over numbers and lists: the Lean function of it that was printed answers true. No condition but that each number is one of its kind. -/
import Derived.Test.YtgmkfhgebinfgaaQFnExactAggAddx1
import Derived.Test.YtgmkfhgebinfgaaAid
set_option linter.unusedVariables false
set_option linter.unusedSimpArgs false
namespace Go.Proofs.Ytgmkfhgebinfgaa.Pure
open Go.RowKit Go.Proofs.Ytgmkfhgebinfgaa.PFnExactAggAdd Go.Proofs.YtgmkfhgebinfgaaW.PrintWords Go.Proofs.YtgmkfhgebinfgaaW.PrintLast Go.Proofs.Ytgmkfhgebinfgaa.Aid

theorem aggBoth_eq : impl_AggBoth.f = spec_AggBoth.f := by
  funext a0 a1 a2 a3 b0 b1 b2 b3
  unfold impl_AggBoth.f spec_AggBoth.f mn mx
  repeat' split
  all_goals simp_all
theorem aggBoth_tot (a0 a1 a2 a3 b0 b1 b2 b3 : Int) : ∃ r, spec_AggBoth.f a0 a1 a2 a3 b0 b1 b2 b3 = some r := by
  unfold spec_AggBoth.f
  repeat' split
  all_goals exact ⟨_, rfl⟩

theorem FnExactAggAdd : ∀ (a0_0 : Int) (a0_1 : Int) (a0_2 : Int) (a0_3 : Int), (Lit.int .i64 a0_0).wf = true → (Lit.int .i64 a0_1).wf = true → (Lit.int .i64 a0_2).wf = true → (Lit.int .i64 a0_3).wf = true → ∀ (a1 : Int), (Lit.int .i64 a1).wf = true → laws_FnExactAggAdd.f a0_0 a0_1 a0_2 a0_3 a1 = some true := by
  intro a0 a1 a2 a3 _ _ _ _ v _
  obtain ⟨r, h⟩ := aggBoth_tot a0 a1 a2 a3 1 v v v
  simp [laws_FnExactAggAdd.f, laws_toAggAgg.f, impl_AggAdd.f, spec_AggAdd.f, aggBoth_eq, h, laws_eqAggAgg.f]

end Go.Proofs.Ytgmkfhgebinfgaa.Pure
