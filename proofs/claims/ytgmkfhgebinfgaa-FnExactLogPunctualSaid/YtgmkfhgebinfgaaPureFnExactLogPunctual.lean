/- The law FnExactLogPunctual over numbers and lists: the Lean function of it that was printed answers true. No condition but that each number is one of its kind. -/
import Derived.Test.YtgmkfhgebinfgaaPFnExactLogPunctualx2
import Derived.Test.YtgmkfhgebinfgaaAid
set_option linter.unusedVariables false
set_option linter.unusedSimpArgs false
namespace Go.Proofs.Ytgmkfhgebinfgaa.Pure
open Go.RowKit Go.Proofs.Ytgmkfhgebinfgaa.PFnExactLogPunctual Go.Proofs.YtgmkfhgebinfgaaW.PrintWords Go.Proofs.YtgmkfhgebinfgaaW.PrintLast Go.Proofs.Ytgmkfhgebinfgaa.Aid

theorem sz_ItmItem (l : List S30) (n : Int) (h0 : 0 ≤ n) (h1 : n ≤ 1048576) (hm : l.length ≤ maxLen) : laws_szItmItemS.f l n = some (if n - (l.length : Int) < 0 then -1 else n - (l.length : Int)) := by
  unfold maxLen at hm
  unfold laws_szItmItemS.f
  rw [wrap_id (by omega) (by omega)]
  split <;> rfl
theorem rd30_at (l : List S30) (j : Nat) (h : j < l.length) : rd_T30 l (j : Int) = l[j] := by simp [rd_T30, List.getD_eq_getElem?_getD, h]
theorem rd36_at (l : List S36) (j : Nat) (h : j < l.length) : rd_T36 l (j : Int) = l[j] := by simp [rd_T36, List.getD_eq_getElem?_getD, h]
def cv_ItmItem (x : S30) : S36 := ⟨x.f0, x.f1, x.f2, x.f3, x.f4⟩
theorem to_ItmItem (l : List S30) (hl : l.length ≤ 1048576) : Ev (fun k => laws_toItmItemS.f k l) (l.map cv_ItmItem) := by
  have h := loop (fun k s i => laws_toItmItemS.l0 k l s i) l.length (fun j s => s.length = l.length ∧ ∀ i (hi : i < l.length), i < j → s[i]? = some (cv_ItmItem l[i])) (fun r => r = l.map cv_ItmItem)
    (fun j s hj hi => by
      obtain ⟨h1, h2⟩ := hi
      refine .inl ⟨s.set j (cv_ItmItem l[j]), ⟨by simp [h1], fun i hi hij => ?_⟩, fun r hr => Ev_eq hr (fun k => ?_)⟩
      · rw [List.getElem?_set]
        by_cases e : j = i
        · subst e
          simp [h1, hi]
        · simp only [e, if_false]
          exact h2 i hi (by omega)
      · simp only [laws_toItmItemS.l0]
        rw [if_pos (by omega), if_pos (by omega), rd30_at l j hj]
        simp only [laws_toItmItem.f, Option.bind_some]
        rw [if_pos (by omega), Int.toNat_natCast, wrap_nat hj (by omega)]
        rfl)
    (fun s hs => ⟨s, Ev_now1 (fun k => by simp only [laws_toItmItemS.l0]; rw [if_neg (by omega)]), by
      obtain ⟨h1, h2⟩ := hs
      apply List.ext_getElem?
      intro i
      by_cases hi : i < l.length
      · rw [h2 i hi hi]
        simp [hi]
      · rw [List.getElem?_eq_none (by omega), List.getElem?_eq_none (by simp; omega)]⟩)
    (List.replicate l.length z36) ⟨by simp, fun i _ h => absurd h (by omega)⟩
  obtain ⟨r, hr, rfl⟩ := h
  refine Ev.congr (fun k => ?_) hr
  unfold laws_toItmItemS.f
  rw [if_pos (by omega), Int.toNat_natCast, if_pos (by omega)]
theorem eq_ItmItem (l : List S36) (hl : l.length ≤ 1048576) : Ev (fun k => laws_eqItmItemS.f k l l) true := by
  have h := loop (fun k (_ : Unit) i => laws_eqItmItemS.l0 k l l i) l.length (fun _ _ => True) (fun r => r = true)
    (fun j s hj _ => .inl ⟨(), trivial, fun r hr => Ev_eq hr (fun k => by
      simp only [laws_eqItmItemS.l0]
      rw [if_pos (by omega), if_pos (by omega), if_pos (by omega), wrap_nat hj (by omega)]
      simp [laws_eqItmItem.f])⟩)
    (fun s _ => ⟨true, Ev_now1 (fun k => by simp only [laws_eqItmItemS.l0]; rw [if_neg (by omega)]), rfl⟩) () trivial
  obtain ⟨r, hr, rfl⟩ := h
  refine Ev.congr (fun k => ?_) hr
  unfold laws_eqItmItemS.f
  rw [if_pos rfl]
theorem l1In_is (a b c : Int) : spec_l1In.f a b c = some (decide (b ≤ a ∧ a ≤ c)) := by
  unfold spec_l1In.f
  by_cases h : a ≥ b
  · have h' : b ≤ a := h
    simp [h, h']
  · have h' : ¬ b ≤ a := h
    simp [h']
theorem in_is (a b c : Int) : impl_in.f a b c = some (decide (b ≤ a ∧ a ≤ c)) := l1In_is a b c
/-- One round of LogPunctual: the greatest mark so far, or out. -/
def stp (late : Int) (s : Int) (x : S36) : Sum Bool Int :=
  if x.f0 = 2 then .inr (mx s x.f1) else if x.f0 = 1 ∧ x.f1 < wrap64 (s - late) then .inl false else .inr s
theorem mx_is (a b : Int) : mx a b = if b > a then b else a := rfl
theorem spec_punct (l : List S36) (late : Int) (hl : l.length ≤ 1048576) : Ev (fun k => spec_LogPunctual.l0 k l late 0 0) (runL (stp late) (fun _ => true) l 0) := by
  refine Ev_run (fun k s i => spec_LogPunctual.l0 k l late s i) l (stp late) _ (fun _ _ => True) (fun j s hj _ s' hs => ⟨trivial, fun r hr => ?_⟩) (fun j s hj _ r hs => ?_) (fun s _ => Ev_now1 (fun k => by simp only [spec_LogPunctual.l0]; rw [if_neg (by omega)])) 0 trivial
  · unfold stp at hs
    by_cases h2 : l[j].f0 = 2
    · rw [if_pos h2] at hs
      have hs := Sum.inr.inj hs
      refine Ev_eq (f := fun k => spec_LogPunctual.j1 k l late s (j : Int) (decide (l[j].f1 > s))) ?_ (fun k => by
        simp only [spec_LogPunctual.l0]
        rw [if_pos (by omega), if_pos (by omega), rd36_at l j hj, if_pos h2])
      refine Ev_eq hr (fun k => ?_)
      simp only [spec_LogPunctual.j1]
      have h1 : ¬ l[j].f0 = 1 := by omega
      rw [mx_is] at hs
      by_cases h3 : l[j].f1 > s
      · rw [if_pos h3] at hs
        rw [if_pos (decide_eq_true h3), if_pos (by omega), if_pos (by omega), rd36_at l j hj, if_neg h1, wrap_nat hj (by omega), hs]
      · rw [if_neg h3] at hs
        rw [if_neg (by simpa using h3), if_pos (by omega), if_pos (by omega), rd36_at l j hj, if_neg h1, wrap_nat hj (by omega), hs]
    · rw [if_neg h2] at hs
      refine Ev_eq (f := fun k => spec_LogPunctual.j1 k l late s (j : Int) false) ?_ (fun k => by
        simp only [spec_LogPunctual.l0]
        rw [if_pos (by omega), if_pos (by omega), rd36_at l j hj, if_neg h2])
      split at hs
      · cases hs
      · rename_i h1
        have hs := Sum.inr.inj hs
        refine Ev_eq hr (fun k => ?_)
        simp only [spec_LogPunctual.j1]
        rw [if_neg (by simp), if_pos (by omega), if_pos (by omega), rd36_at l j hj, wrap_nat hj (by omega), hs]
        by_cases h4 : l[j].f0 = 1
        · rw [if_pos h4, if_neg (fun h => h1 ⟨h4, by rw [← hs] at h; exact h⟩)]
        · rw [if_neg h4]
  · unfold stp at hs
    by_cases h2 : l[j].f0 = 2
    · rw [if_pos h2] at hs
      cases hs
    · rw [if_neg h2] at hs
      refine Ev_eq (f := fun k => spec_LogPunctual.j1 k l late s (j : Int) false) ?_ (fun k => by
        simp only [spec_LogPunctual.l0]
        rw [if_pos (by omega), if_pos (by omega), rd36_at l j hj, if_neg h2])
      split at hs
      · rename_i h1
        refine Ev_now1 (fun k => ?_)
        simp only [spec_LogPunctual.j1]
        rw [if_neg (by simp), if_pos (by omega), if_pos (by omega), rd36_at l j hj, if_pos h1.1, if_pos h1.2, Sum.inl.inj hs]
      · cases hs
theorem impl_punct (l : List S36) (late : Int) (hl : l.length ≤ 1048576) : Ev (fun k => impl_LogPunctual.l0 k late 0 l (l.length : Int) 0) (runL (stp late) (fun _ => true) l 0) := by
  refine Ev_run (fun k s i => impl_LogPunctual.l0 k late s l (l.length : Int) i) l (stp late) _ (fun _ _ => True) (fun j s hj _ s' hs => ⟨trivial, fun r hr => Ev_eq hr (fun k => ?_)⟩) (fun j s hj _ r hs => Ev_now1 (fun k => ?_)) (fun s _ => Ev_now1 (fun k => by simp only [impl_LogPunctual.l0]; rw [if_neg (by omega)])) 0 trivial
  · simp only [impl_LogPunctual.l0]
    rw [if_pos (by omega), if_pos (by omega), if_pos (by omega), rd36_at l j hj, wrap_nat hj (by omega)]
    unfold stp at hs
    split at hs
    · rename_i h2
      rw [if_pos h2, Sum.inr.inj hs]
    · rename_i h2
      rw [if_neg h2]
      split at hs
      · cases hs
      · rename_i h1
        by_cases h4 : l[j].f0 = 1
        · rw [if_pos h4, if_neg (fun h => h1 ⟨h4, h⟩), Sum.inr.inj hs]
        · rw [if_neg h4, Sum.inr.inj hs]
  · simp only [impl_LogPunctual.l0]
    rw [if_pos (by omega), if_pos (by omega), if_pos (by omega), rd36_at l j hj]
    unfold stp at hs
    split at hs
    · cases hs
    · rename_i h2
      rw [if_neg h2]
      split at hs
      · rename_i h1
        rw [if_pos h1.1, if_pos h1.2, Sum.inl.inj hs]
      · cases hs
/-- What LogPunctual tells. -/
def punct (l : List S36) (late : Int) : Bool := if 0 ≤ late ∧ late ≤ 1000 then runL (stp late) (fun _ => true) l 0 else false
theorem punct_spec (l : List S36) (late : Int) (hl : l.length ≤ 1048576) : Ev (fun k => spec_LogPunctual.f k l late) (punct l late) := by
  unfold punct
  by_cases h : 0 ≤ late ∧ late ≤ 1000
  · rw [if_pos h]
    exact Ev.congr (fun k => by unfold spec_LogPunctual.f; rw [l1In_is, decide_eq_true h]; rfl) (spec_punct l late hl)
  · rw [if_neg h]
    exact Ev_const (fun k => by unfold spec_LogPunctual.f; rw [l1In_is, decide_eq_false h]; rfl)
theorem punct_impl (l : List S36) (late : Int) (hl : l.length ≤ 1048576) : Ev (fun k => impl_LogPunctual.f k l late) (punct l late) := by
  unfold punct
  by_cases h : 0 ≤ late ∧ late ≤ 1000
  · rw [if_pos h]
    exact Ev.congr (fun k => by unfold impl_LogPunctual.f impl_isTime.f; rw [in_is, decide_eq_true h]; rfl) (impl_punct l late hl)
  · rw [if_neg h]
    exact Ev_const (fun k => by unfold impl_LogPunctual.f impl_isTime.f; rw [in_is, decide_eq_false h]; rfl)

theorem FnExactLogPunctual : ∀ (l0 : List S30), l0.length ≤ maxLen → (∀ x ∈ l0, (Lit.int .i64 x.f0).wf = true ∧ (Lit.int .i64 x.f1).wf = true ∧ (Lit.int .i64 x.f2).wf = true ∧ (Lit.int .i64 x.f3).wf = true ∧ (Lit.int .i64 x.f4).wf = true) → ∀ (a1 : Int), (Lit.int .i64 a1).wf = true → ∃ k, laws_FnExactLogPunctual.f k l0 a1 = some true := by
  intro l hm _ a _
  apply Ev.rounds
  simp only [laws_FnExactLogPunctual.f, sz_ItmItem l 1048576 (by omega) (by omega) hm, Option.bind_some]
  by_cases hl : l.length ≤ 1048576
  · simp only [if_neg (show ¬ (1048576 : Int) - (l.length : Int) < 0 by omega)]
    have hml : (l.map cv_ItmItem).length ≤ 1048576 := by simpa using hl
    refine Ev.bind (to_ItmItem l hl) (Ev.bind (punct_spec _ a hml) (Ev.bind (to_ItmItem l hl) (Ev.bind (punct_impl _ a hml) ?_)))
    simp only [bne_self_eq_false, Bool.false_eq_true, if_false]
    refine Ev.bind (to_ItmItem l hl) (Ev.bind (eq_ItmItem _ hml) ?_)
    exact Ev_const (fun k => rfl)
  · simp only [if_pos (show (1048576 : Int) - (l.length : Int) < 0 by omega)]
    exact Ev_const (fun k => rfl)

end Go.Proofs.Ytgmkfhgebinfgaa.Pure
