/- The law FnExactAggTell over numbers: its printed function answers true. No condition but that each number is one of its kind. -/
import Derived.Test.YtjclmjmbhhlbcaaPFnExactAggTellx1
set_option linter.unusedVariables false
set_option linter.unusedSimpArgs false
namespace Go.Proofs.Ytjclmjmbhhlbcaa.Pure
open Go.RowKit Go.Proofs.Ytjclmjmbhhlbcaa.PFnExactAggTell Go.Proofs.YtjclmjmbhhlbcaaW.PrintWords Go.Proofs.YtjclmjmbhhlbcaaW.PrintLast

theorem FnExactAggTell : ∀ (a0_0 : Int) (a0_1 : Int) (a0_2 : Int) (a0_3 : Int), (Lit.int .i64 a0_0).wf = true → (Lit.int .i64 a0_1).wf = true → (Lit.int .i64 a0_2).wf = true → (Lit.int .i64 a0_3).wf = true → ∀ (a1 : Int), (Lit.int .i64 a1).wf = true → laws_FnExactAggTell.f a0_0 a0_1 a0_2 a0_3 a1 = some true := by
  intro a0 a1 a2 a3 _ _ _ _ c _
  have e : impl_AggTell.f a0 a1 a2 a3 c = spec_AggTell.f a0 a1 a2 a3 c := rfl
  obtain ⟨r, h⟩ : ∃ r, spec_AggTell.f a0 a1 a2 a3 c = some r := by
    unfold spec_AggTell.f
    repeat' split
    all_goals exact ⟨_, rfl⟩
  simp [laws_FnExactAggTell.f, laws_toAggAgg.f, e, h]

end Go.Proofs.Ytjclmjmbhhlbcaa.Pure
