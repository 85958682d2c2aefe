/- The law FnExactLogRecs over numbers and lists: the Lean function of it that was printed answers true. No condition but that each number is one of its kind. -/
import Derived.Test.YtkmckalckafloaaPFnExactLogRecsx2
import Derived.Test.YtkmckalckafloaaAid
set_option linter.unusedVariables false
set_option linter.unusedSimpArgs false
namespace Go.Proofs.Ytkmckalckafloaa.Pure
open Go.RowKit Go.Proofs.Ytkmckalckafloaa.PFnExactLogRecs Go.Proofs.YtkmckalckafloaaW.PrintWords Go.Proofs.YtkmckalckafloaaW.PrintLast Go.Proofs.Ytkmckalckafloaa.Aid

theorem sz_ItmItem (l : List S99) (n : Int) (h0 : 0 ≤ n) (h1 : n ≤ 1048576) (hm : l.length ≤ maxLen) : laws_szItmItemS.f l n = some (if n - (l.length : Int) < 0 then -1 else n - (l.length : Int)) := by
  unfold maxLen at hm
  unfold laws_szItmItemS.f
  rw [wrap_id (by omega) (by omega)]
  split <;> rfl
theorem rd99_at (l : List S99) (j : Nat) (h : j < l.length) : rd_T99 l (j : Int) = l[j] := by simp [rd_T99, List.getD_eq_getElem?_getD, h]
theorem rd70_at (l : List S70) (j : Nat) (h : j < l.length) : rd_T70 l (j : Int) = l[j] := by simp [rd_T70, List.getD_eq_getElem?_getD, h]
def cv_ItmItem (x : S99) : S70 := ⟨x.f0, x.f1, x.f2, x.f3, x.f4⟩
theorem to_ItmItem (l : List S99) (hl : l.length ≤ 1048576) : Ev (fun k => laws_toItmItemS.f k l) (l.map cv_ItmItem) := by
  have h := loop (fun k s i => laws_toItmItemS.l0 k l s i) l.length (fun j s => s.length = l.length ∧ ∀ i (hi : i < l.length), i < j → s[i]? = some (cv_ItmItem l[i])) (fun r => r = l.map cv_ItmItem)
    (fun j s hj hi => by
      obtain ⟨h1, h2⟩ := hi
      refine .inl ⟨s.set j (cv_ItmItem l[j]), ⟨by simp [h1], fun i hi hij => ?_⟩, fun r hr => Ev_eq hr (fun k => ?_)⟩
      · rw [List.getElem?_set]
        by_cases e : j = i
        · subst e
          simp [h1, hi]
        · simp only [e, if_false]
          exact h2 i hi (by omega)
      · simp only [laws_toItmItemS.l0]
        rw [if_pos (by omega), if_pos (by omega), rd99_at l j hj]
        simp only [laws_toItmItem.f, Option.bind_some]
        rw [if_pos (by omega), Int.toNat_natCast, wrap_nat hj (by omega)]
        rfl)
    (fun s hs => ⟨s, Ev_now1 (fun k => by simp only [laws_toItmItemS.l0]; rw [if_neg (by omega)]), by
      obtain ⟨h1, h2⟩ := hs
      apply List.ext_getElem?
      intro i
      by_cases hi : i < l.length
      · rw [h2 i hi hi]
        simp [hi]
      · rw [List.getElem?_eq_none (by omega), List.getElem?_eq_none (by simp; omega)]⟩)
    (List.replicate l.length z70) ⟨by simp, fun i _ h => absurd h (by omega)⟩
  obtain ⟨r, hr, rfl⟩ := h
  refine Ev.congr (fun k => ?_) hr
  unfold laws_toItmItemS.f
  rw [if_pos (by omega), Int.toNat_natCast, if_pos (by omega)]
theorem eq_ItmItem (l : List S70) (hl : l.length ≤ 1048576) : Ev (fun k => laws_eqItmItemS.f k l l) true := by
  have h := loop (fun k (_ : Unit) i => laws_eqItmItemS.l0 k l l i) l.length (fun _ _ => True) (fun r => r = true)
    (fun j s hj _ => .inl ⟨(), trivial, fun r hr => Ev_eq hr (fun k => by
      simp only [laws_eqItmItemS.l0]
      rw [if_pos (by omega), if_pos (by omega), if_pos (by omega), wrap_nat hj (by omega)]
      simp [laws_eqItmItem.f])⟩)
    (fun s _ => ⟨true, Ev_now1 (fun k => by simp only [laws_eqItmItemS.l0]; rw [if_neg (by omega)]), rfl⟩) () trivial
  obtain ⟨r, hr, rfl⟩ := h
  refine Ev.congr (fun k => ?_) hr
  unfold laws_eqItmItemS.f
  rw [if_pos rfl]
/-- What the marking writes from the number c on. -/
def mk_ItmItem (c : Int) : S70 := ⟨c, c + 1, c + 2, c + 3, c + 4⟩
theorem mark_ItmItem (l : List S70) (hl : l.length ≤ 1048576) : ∃ r, Ev (fun k => laws_markItmItemS.f k l 1) r ∧ r.1 = 1 + 5 * (l.length : Int) ∧ r.2.length = l.length ∧ ∀ i, i < l.length → r.2[i]? = some (mk_ItmItem (1 + 5 * (i : Int))) := by
  have h := loop (fun k (s : Int × List S70) i => laws_markItmItemS.l0 k s.2 s.1 i) l.length (fun j s => s.1 = 1 + 5 * (j : Int) ∧ s.2.length = l.length ∧ ∀ i, i < j → s.2[i]? = some (mk_ItmItem (1 + 5 * (i : Int)))) (fun r => r.1 = 1 + 5 * (l.length : Int) ∧ r.2.length = l.length ∧ ∀ i, i < l.length → r.2[i]? = some (mk_ItmItem (1 + 5 * (i : Int))))
    (fun j s hj hi => by
      obtain ⟨c, s⟩ := s
      obtain ⟨hc, h1, h2⟩ := hi
      simp only at hc h1 h2
      refine .inl ⟨(c + 5, s.set j (mk_ItmItem c)), ⟨by simp only; omega, by simp [h1], fun i hij => ?_⟩, fun r hr => Ev_eq hr (fun k => ?_)⟩
      · simp only
        rw [List.getElem?_set]
        by_cases e : j = i
        · subst e
          simp [h1, hj, hc]
        · simp only [e, if_false]
          exact h2 i (by omega)
      · have hjs : j < s.length := by omega
        have rs : ∀ v, rd_T70 (s.set j v) (j : Int) = v := fun v => by rw [rd70_at _ j (by simpa using hjs)]; simp
        have w0 : wrap64 (c + 1) = c + 1 := wrap_id (by omega) (by omega)
        have w1 : wrap64 (c + 1 + 1) = c + 1 + 1 := wrap_id (by omega) (by omega)
        have w2 : wrap64 (c + 1 + 1 + 1) = c + 1 + 1 + 1 := wrap_id (by omega) (by omega)
        have w3 : wrap64 (c + 1 + 1 + 1 + 1) = c + 1 + 1 + 1 + 1 := wrap_id (by omega) (by omega)
        have w4 : wrap64 (c + 1 + 1 + 1 + 1 + 1) = c + 1 + 1 + 1 + 1 + 1 := wrap_id (by omega) (by omega)
        have e1 : mk_ItmItem c = ⟨c, c + 1, c + 1 + 1, c + 1 + 1 + 1, c + 1 + 1 + 1 + 1⟩ := by simp only [mk_ItmItem, Int.add_assoc] <;> rfl
        simp only [laws_markItmItemS.l0]
        rw [if_pos (by omega), if_pos (by omega)]
        simp only [Option.bind_some, Int.toNat_natCast, rs, List.set_set, w0, w1, w2, w3, w4]
        rw [wrap_nat hj (by omega), e1, show c + 5 = c + 1 + 1 + 1 + 1 + 1 by omega])
    (fun s hs => ⟨s, Ev_now1 (fun k => by obtain ⟨c, s⟩ := s; obtain ⟨hc, h1, h2⟩ := hs; simp only at h1; simp only [laws_markItmItemS.l0]; rw [if_neg (by omega)]), hs⟩) (1, l) ⟨by simp, rfl, fun i h => absurd h (by omega)⟩
  exact h
theorem held_ItmItem (l : List S70) (hl : l.length ≤ 1048576) (h : ∀ i, i < l.length → l[i]? = some (mk_ItmItem (1 + 5 * (i : Int)))) : Ev (fun k => laws_heldItmItemS.f k l 1) (1 + 5 * (l.length : Int)) := by
  have h := loop (fun k c i => laws_heldItmItemS.l0 k l c i) l.length (fun j c => c = 1 + 5 * (j : Int)) (fun r => r = 1 + 5 * (l.length : Int))
    (fun j c hj hc => .inl ⟨c + 5, by omega, fun r hr => Ev_eq hr (fun k => by
      have hx := h j hj
      rw [List.getElem?_eq_getElem hj] at hx
      have hx := Option.some.inj hx
      rw [← hc] at hx
      have w0 : wrap64 (c + 1) = c + 1 := wrap_id (by omega) (by omega)
      have w1 : wrap64 (c + 1 + 1) = c + 1 + 1 := wrap_id (by omega) (by omega)
      have w2 : wrap64 (c + 1 + 1 + 1) = c + 1 + 1 + 1 := wrap_id (by omega) (by omega)
      have w3 : wrap64 (c + 1 + 1 + 1 + 1) = c + 1 + 1 + 1 + 1 := wrap_id (by omega) (by omega)
      have w4 : wrap64 (c + 1 + 1 + 1 + 1 + 1) = c + 1 + 1 + 1 + 1 + 1 := wrap_id (by omega) (by omega)
      have e1 : mk_ItmItem c = ⟨c, c + 1, c + 1 + 1, c + 1 + 1 + 1, c + 1 + 1 + 1 + 1⟩ := by simp only [mk_ItmItem, Int.add_assoc] <;> rfl
      simp only [laws_heldItmItemS.l0]
      rw [if_pos (by omega), if_pos (by omega), rd70_at l j hj, hx, e1]
      simp only [w0, w1, w2, w3, w4, if_true]
      rw [wrap_nat hj (by omega), show c + 5 = c + 1 + 1 + 1 + 1 + 1 by omega])⟩)
    (fun c hc => ⟨c, Ev_now1 (fun k => by simp only [laws_heldItmItemS.l0]; rw [if_neg (by omega)]), hc⟩) 1 (by omega)
  obtain ⟨r, hr, rfl⟩ := h
  exact hr
/-- One round: a record that is not too small is kept. -/
def stp (least : Int) (s : List S70) (x : S70) : List S70 := if x.f0 = 1 ∧ x.f3 ≥ least then s ++ [x] else s
theorem stp_le (least : Int) (s : List S70) (x : S70) : (stp least s x).length ≤ s.length + 1 := by
  unfold stp
  split <;> simp
theorem foldl_stp_le (least : Int) (l : List S70) (s : List S70) : (l.foldl (stp least) s).length ≤ s.length + l.length := by
  induction l generalizing s with
  | nil => simp
  | cons x l ih =>
    have h1 := ih (stp least s x)
    have h2 := stp_le least s x
    simp only [List.foldl_cons, List.length_cons]
    omega
theorem recs_spec (l : List S70) (least : Int) (hl : l.length ≤ 1048576) : Ev (fun k => spec_LogRecs.f k l least) (l.foldl (stp least) []) := by
  have h := Ev_run (fun k s i => spec_LogRecs.l0 k l least s i) l (fun s x => .inr (stp least s x)) id (fun j s => s.length ≤ j) (fun j s hj hi s' hs => by
      obtain rfl := Sum.inr.inj hs
      refine ⟨by have := stp_le least s l[j]; omega, fun r hr => Ev_eq hr (fun k => ?_)⟩
      simp only [spec_LogRecs.l0]
      rw [if_pos (by omega), if_pos (by omega), rd70_at l j hj, wrap_nat hj (by omega)]
      unfold stp
      by_cases h1 : l[j].f0 = 1
      · by_cases h2 : l[j].f3 ≥ least
        · rw [if_pos h1, if_pos h2, if_pos (by omega), if_pos ⟨h1, h2⟩]
        · rw [if_pos h1, if_neg h2, if_neg (fun h => h2 h.2)]
      · rw [if_neg h1, if_neg (fun h => h1 h.1)]) (fun j s hj _ r h => by cases h) (fun s _ => Ev_now1 (fun k => by simp only [spec_LogRecs.l0]; rw [if_neg (by omega)]; rfl)) [] (by simp)
  rw [runL_fold] at h
  exact h
theorem recs_impl (l : List S70) (least : Int) (hl : l.length ≤ 1048576) : Ev (fun k => impl_LogRecs.f k l least) (l.foldl (stp least) []) := by
  have h := Ev_run (fun k s i => impl_LogRecs.l0 k least s l (l.length : Int) i) l (fun s x => .inr (stp least s x)) id (fun j s => s.length ≤ j) (fun j s hj hi s' hs => by
      obtain rfl := Sum.inr.inj hs
      refine ⟨by have := stp_le least s l[j]; omega, fun r hr => Ev_eq hr (fun k => ?_)⟩
      simp only [impl_LogRecs.l0]
      rw [if_pos (by omega), if_pos (by omega), if_pos (by omega), rd70_at l j hj, wrap_nat hj (by omega)]
      unfold stp
      by_cases h1 : l[j].f0 = 1
      · by_cases h2 : l[j].f3 ≥ least
        · rw [if_pos h1, if_pos h2, if_pos (by omega), if_pos ⟨h1, h2⟩]
        · rw [if_pos h1, if_neg h2, if_neg (fun h => h2 h.2)]
      · rw [if_neg h1, if_neg (fun h => h1 h.1)]) (fun j s hj _ r h => by cases h) (fun s _ => Ev_now1 (fun k => by simp only [impl_LogRecs.l0]; rw [if_neg (by omega)]; rfl)) [] (by simp)
  rw [runL_fold] at h
  exact h

theorem FnExactLogRecs : ∀ (l0 : List S99), l0.length ≤ maxLen → (∀ x ∈ l0, (Lit.int .i64 x.f0).wf = true ∧ (Lit.int .i64 x.f1).wf = true ∧ (Lit.int .i64 x.f2).wf = true ∧ (Lit.int .i64 x.f3).wf = true ∧ (Lit.int .i64 x.f4).wf = true) → ∀ (a1 : Int), (Lit.int .i64 a1).wf = true → ∃ k, laws_FnExactLogRecs.f k l0 a1 = some true := by
  intro l hm _ a _
  apply Ev.rounds
  simp only [laws_FnExactLogRecs.f, sz_ItmItem l 1048576 (by omega) (by omega) hm, Option.bind_some]
  by_cases hl : l.length ≤ 1048576
  · simp only [if_neg (show ¬ (1048576 : Int) - (l.length : Int) < 0 by omega)]
    have hml : (l.map cv_ItmItem).length ≤ 1048576 := by simpa using hl
    have hfl : ((l.map cv_ItmItem).foldl (stp a) []).length ≤ 1048576 := by have := foldl_stp_le a (l.map cv_ItmItem) []; simp at this; simp; omega
    obtain ⟨m1, hm1, hm2, hm3, hm4⟩ := mark_ItmItem _ hml
    obtain ⟨m2, hg1, hg2, hg3, hg4⟩ := mark_ItmItem _ hfl
    have hh : Ev (fun k => laws_heldItmItemS.f k m2.2 1) m2.1 := by
      rw [hg2, ← hg3]
      exact held_ItmItem m2.2 (by omega) (fun i hi => hg4 i (by omega))
    have hr := recs_spec _ a hml
    refine Ev.bind (to_ItmItem l hl) (Ev.bind hr (Ev.bind (to_ItmItem l hl) (Ev.bind (recs_impl _ a hml) (Ev.bind (eq_ItmItem _ hfl) ?_))))
    simp only [if_true]
    refine Ev.bind (to_ItmItem l hl) (Ev.bind (eq_ItmItem _ hml) ?_)
    simp only [if_true]
    refine Ev.bind hm1 ?_
    simp only [if_neg (show ¬ m1.1 < 0 by omega)]
    refine Ev.bind (eq_ItmItem _ hfl) ?_
    simp only [Bool.not_true]
    refine Ev.step (f := fun k => _) (fun k => by simp only [laws_FnExactLogRecs.j0, Bool.false_eq_true, if_false]; rfl) ?_
    refine Ev.bind hg1 (Ev.bind hh ?_)
    simp only [if_neg (show ¬ m2.1 < 0 by omega), if_true]
    refine Ev.bind (to_ItmItem l hl) (Ev.bind (recs_impl _ a hml) (Ev.bind (eq_ItmItem _ hfl) ?_))
    simp only [if_true]
    refine Ev.bind hh ?_
    simp only [if_neg (show ¬ m2.1 < 0 by omega), if_true]
    exact Ev_const (fun k => rfl)
  · simp only [if_pos (show (1048576 : Int) - (l.length : Int) < 0 by omega)]
    exact Ev_const (fun k => rfl)

end Go.Proofs.Ytkmckalckafloaa.Pure
