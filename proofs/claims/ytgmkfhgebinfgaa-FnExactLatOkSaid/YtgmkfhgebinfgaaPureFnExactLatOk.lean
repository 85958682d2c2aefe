/- The law FnExactLatOk over numbers and lists: the Lean function of it that was printed answers true. No condition but that each number is one of its kind. -/
import Derived.Test.YtgmkfhgebinfgaaPFnExactLatOkx2
import Derived.Test.YtgmkfhgebinfgaaAid
set_option linter.unusedVariables false
set_option linter.unusedSimpArgs false
namespace Go.Proofs.Ytgmkfhgebinfgaa.Pure
open Go.RowKit Go.Proofs.Ytgmkfhgebinfgaa.PFnExactLatOk Go.Proofs.YtgmkfhgebinfgaaW.PrintWords Go.Proofs.YtgmkfhgebinfgaaW.PrintLast Go.Proofs.Ytgmkfhgebinfgaa.Aid

theorem l1In_is (a b c : Int) : spec_l1In.f a b c = some (decide (b ≤ a ∧ a ≤ c)) := by
  unfold spec_l1In.f
  by_cases h : a ≥ b
  · have h' : b ≤ a := h
    simp [h, h']
  · have h' : ¬ b ≤ a := h
    simp [h']
theorem in_is (a b c : Int) : impl_in.f a b c = some (decide (b ≤ a ∧ a ≤ c)) := l1In_is a b c
theorem itmOk_eq : impl_ItmOk.f = spec_ItmOk.f := rfl
theorem itmOk_tot (a b c d e : Int) : ∃ r, spec_ItmOk.f a b c d e = some r := by
  unfold spec_ItmOk.f
  simp only [l1In_is, Option.bind_some]
  repeat' split
  all_goals exact ⟨_, rfl⟩
theorem latOk_eq : impl_LatOk.f = spec_LatOk.f := by
  funext a b c d e f g
  unfold impl_LatOk.f spec_LatOk.f impl_isRec.f
  by_cases h : a = 1
  · rw [if_pos h, if_pos h]
    obtain ⟨r, hr⟩ := itmOk_tot a b c d e
    rw [itmOk_eq, hr]
    rfl
  · rw [if_neg h, if_neg h]
    rfl
theorem latOk_tot (a b c d e f g : Int) : ∃ r, spec_LatOk.f a b c d e f g = some r := by
  unfold spec_LatOk.f spec_WinOk.f
  obtain ⟨r, hr⟩ := itmOk_tot a b c d e
  simp only [l1In_is, hr, Option.bind_some]
  by_cases h1 : a = 1
  · rw [if_pos h1]
    cases r with
    | false => exact ⟨_, rfl⟩
    | true =>
      simp only [if_true]
      by_cases h2 : 0 ≤ f ∧ f ≤ 60
      · rw [decide_eq_true h2]
        simp only [if_true, Option.bind_some]
        split <;> exact ⟨_, rfl⟩
      · rw [decide_eq_false h2]
        exact ⟨_, rfl⟩
  · rw [if_neg h1]
    exact ⟨_, rfl⟩

theorem FnExactLatOk : ∀ (a0_0 : Int) (a0_1 : Int) (a0_2 : Int) (a0_3 : Int) (a0_4 : Int) (a0_5 : Int) (a0_6 : Int), (Lit.int .i64 a0_0).wf = true → (Lit.int .i64 a0_1).wf = true → (Lit.int .i64 a0_2).wf = true → (Lit.int .i64 a0_3).wf = true → (Lit.int .i64 a0_4).wf = true → (Lit.int .i64 a0_5).wf = true → (Lit.int .i64 a0_6).wf = true → laws_FnExactLatOk.f a0_0 a0_1 a0_2 a0_3 a0_4 a0_5 a0_6 = some true := by
  intro a b c d e f g _ _ _ _ _ _ _
  obtain ⟨r, h⟩ := latOk_tot a b c d e f g
  simp [laws_FnExactLatOk.f, laws_toLatPair.f, laws_toItmItem.f, laws_toWinWin.f, latOk_eq, h]

end Go.Proofs.Ytgmkfhgebinfgaa.Pure
