/- The law FnExactPanOk over numbers and lists: the Lean function of it that was printed answers true. No condition but that each number is one of its kind. -/
import Derived.Test.YtgmkfhgebinfgaaPFnExactPanOkx3
import Derived.Test.YtgmkfhgebinfgaaAid
set_option linter.unusedVariables false
set_option linter.unusedSimpArgs false
namespace Go.Proofs.Ytgmkfhgebinfgaa.Pure
open Go.RowKit Go.Proofs.Ytgmkfhgebinfgaa.PFnExactPanOk Go.Proofs.YtgmkfhgebinfgaaW.PrintWords Go.Proofs.YtgmkfhgebinfgaaW.PrintLast Go.Proofs.Ytgmkfhgebinfgaa.Aid

theorem l1In_is (a b c : Int) : spec_l1In.f a b c = some (decide (b ≤ a ∧ a ≤ c)) := by
  unfold spec_l1In.f
  by_cases h : a ≥ b
  · have h' : b ≤ a := h
    simp [h, h']
  · have h' : ¬ b ≤ a := h
    simp [h']
theorem in_is (a b c : Int) : impl_in.f a b c = some (decide (b ≤ a ∧ a ≤ c)) := l1In_is a b c
theorem aggOk_eq : impl_AggOk.f = spec_AggOk.f := rfl
theorem winOk_eq : impl_WinOk.f = spec_WinOk.f := rfl
theorem aggOk_tot (a b c d : Int) : ∃ r, spec_AggOk.f a b c d = some r := by
  unfold spec_AggOk.f
  simp only [l1In_is, Option.bind_some]
  repeat' split
  all_goals exact ⟨_, rfl⟩
theorem winOk_tot (a b : Int) : ∃ r, spec_WinOk.f a b = some r := by
  unfold spec_WinOk.f
  simp only [l1In_is, Option.bind_some]
  split <;> exact ⟨_, rfl⟩
theorem panOk_both (k : Nat) (a0 a1 a2 a3 a4 a5 a6 a7 a8 : Int) : ∃ r, spec_PanOk.f (k + 1) a0 a1 a2 a3 a4 a5 a6 a7 a8 = some r ∧ impl_PanOk.f (k + 1) a0 a1 a2 a3 a4 a5 a6 a7 a8 = some r := by
  obtain ⟨w, hw⟩ := winOk_tot a1 a2
  obtain ⟨g, hg⟩ := aggOk_tot a5 a6 a7 a8
  have key : ∀ b : Bool, ∃ r, spec_PanOk.j0 (k + 1) b a0 a1 a2 a3 a4 a5 a6 a7 a8 = some r ∧ impl_PanOk.j0 (k + 1) b a0 a1 a2 a3 a4 a5 a6 a7 a8 = some r := by
    intro b
    simp only [spec_PanOk.j0, impl_PanOk.j0]
    cases b with
    | true => exact ⟨false, rfl, rfl⟩
    | false =>
      simp only [Bool.false_eq_true, if_false]
      by_cases e3 : a4 = 3
      · subst e3
        rw [if_pos rfl, if_neg (show ¬ (3 : Int) = 1 by decide), if_neg (show ¬ (3 : Int) = 2 by decide), if_pos rfl]
        by_cases e5 : a5 = 0
        · rw [if_pos e5]
          refine ⟨_, rfl, ?_⟩
          by_cases e : a3 > 0
          · simp [e, e5]
          · simp [e]
        · rw [if_neg e5]
          refine ⟨_, rfl, ?_⟩
          split <;> simp [e5]
      · rw [if_neg e3]
        by_cases e5 : a5 > 0
        · rw [if_pos e5, decide_eq_true e5]
          by_cases e1 : a4 = 1
          · subst e1
            rw [if_pos rfl, if_pos rfl]
            by_cases e : a3 = 0
            · rw [if_pos e, if_pos e]
              exact ⟨_, rfl, rfl⟩
            · rw [if_neg e, if_neg e, if_neg (show ¬ (1 : Int) = 2 by decide)]
              exact ⟨_, rfl, rfl⟩
          · rw [if_neg e1, if_neg e1]
            by_cases e2 : a4 = 2
            · rw [if_pos e2, if_pos e2]
              refine ⟨_, rfl, ?_⟩
              by_cases e : a3 > 0 <;> simp [e]
            · rw [if_neg e2, if_neg e2, if_neg e3]
              exact ⟨_, rfl, rfl⟩
        · rw [if_neg e5, decide_eq_false e5]
          refine ⟨_, rfl, ?_⟩
          split
          · split <;> rfl
          · split
            · split <;> rfl
            · rfl
  unfold spec_PanOk.f impl_PanOk.f impl_isKey.f
  rw [winOk_eq, aggOk_eq, hw, hg]
  simp only [l1In_is, in_is, Option.bind_some]
  by_cases h0 : 0 ≤ a0 ∧ a0 ≤ 3
  · rw [decide_eq_true h0]
    simp only [if_true]
    cases w with
    | false => exact key true
    | true =>
      simp only [if_true]
      by_cases h3 : 0 ≤ a3 ∧ a3 ≤ 1500
      · rw [decide_eq_true h3]
        exact key (!g)
      · rw [decide_eq_false h3]
        exact key true
  · rw [decide_eq_false h0]
    exact key true

theorem FnExactPanOk : ∀ (a0_0 : Int) (a0_1 : Int) (a0_2 : Int) (a0_3 : Int) (a0_4 : Int) (a0_5 : Int) (a0_6 : Int) (a0_7 : Int) (a0_8 : Int), (Lit.int .i64 a0_0).wf = true → (Lit.int .i64 a0_1).wf = true → (Lit.int .i64 a0_2).wf = true → (Lit.int .i64 a0_3).wf = true → (Lit.int .i64 a0_4).wf = true → (Lit.int .i64 a0_5).wf = true → (Lit.int .i64 a0_6).wf = true → (Lit.int .i64 a0_7).wf = true → (Lit.int .i64 a0_8).wf = true → ∃ k, laws_FnExactPanOk.f k a0_0 a0_1 a0_2 a0_3 a0_4 a0_5 a0_6 a0_7 a0_8 = some true := by
  intro a0 a1 a2 a3 a4 a5 a6 a7 a8 _ _ _ _ _ _ _ _ _
  obtain ⟨r, h1, h2⟩ := panOk_both 0 a0 a1 a2 a3 a4 a5 a6 a7 a8
  exact ⟨0 + 1, by simp [laws_FnExactPanOk.f, laws_toPanPane.f, laws_toWinWin.f, laws_toAggAgg.f, h1, h2]⟩

end Go.Proofs.Ytgmkfhgebinfgaa.Pure
