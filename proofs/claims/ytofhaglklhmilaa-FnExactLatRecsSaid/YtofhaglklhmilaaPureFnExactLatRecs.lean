/- The law FnExactLatRecs over numbers and lists: the Lean function of it that was printed answers true. No condition but that each number is one of its kind. -/
import Derived.Test.YtofhaglklhmilaaQFnExactLatRecsx4
import Derived.Test.YtofhaglklhmilaaAid
set_option linter.unusedVariables false
set_option linter.unusedSimpArgs false
namespace Go.Proofs.Ytofhaglklhmilaa.Pure
open Go.RowKit Go.Proofs.Ytofhaglklhmilaa.PFnExactLatRecs Go.Proofs.YtofhaglklhmilaaW.PrintWords Go.Proofs.YtofhaglklhmilaaW.PrintLast Go.Proofs.Ytofhaglklhmilaa.Aid

theorem sz_LatPair (l : List S93) (n : Int) (h0 : 0 ≤ n) (h1 : n ≤ 1048576) (hm : l.length ≤ maxLen) : laws_szLatPairS.f l n = some (if n - (l.length : Int) < 0 then -1 else n - (l.length : Int)) := by
  unfold maxLen at hm
  unfold laws_szLatPairS.f
  rw [wrap_id (by omega) (by omega)]
  split <;> rfl
theorem rd93_at (l : List S93) (j : Nat) (h : j < l.length) : rd_T93 l (j : Int) = l[j] := by simp [rd_T93, List.getD_eq_getElem?_getD, h]
theorem rd89_at (l : List S89) (j : Nat) (h : j < l.length) : rd_T89 l (j : Int) = l[j] := by simp [rd_T89, List.getD_eq_getElem?_getD, h]
def cv_LatPair (x : S93) : S89 := ⟨⟨x.f0.f0, x.f0.f1, x.f0.f2, x.f0.f3, x.f0.f4⟩, ⟨x.f1.f0, x.f1.f1⟩⟩
theorem to_LatPair (l : List S93) (hl : l.length ≤ 1048576) : Ev (fun k => laws_toLatPairS.f k l) (l.map cv_LatPair) := by
  have h := loop (fun k s i => laws_toLatPairS.l0 k l s i) l.length (fun j s => s.length = l.length ∧ ∀ i (hi : i < l.length), i < j → s[i]? = some (cv_LatPair l[i])) (fun r => r = l.map cv_LatPair)
    (fun j s hj hi => by
      obtain ⟨h1, h2⟩ := hi
      refine .inl ⟨s.set j (cv_LatPair l[j]), ⟨by simp [h1], fun i hi hij => ?_⟩, fun r hr => Ev_eq hr (fun k => ?_)⟩
      · rw [List.getElem?_set]
        by_cases e : j = i
        · subst e
          simp [h1, hi]
        · simp only [e, if_false]
          exact h2 i hi (by omega)
      · simp only [laws_toLatPairS.l0]
        rw [if_pos (by omega), if_pos (by omega), rd93_at l j hj]
        simp only [laws_toLatPair.f, laws_toItmItem.f, laws_toWinWin.f, Option.bind_some]
        rw [if_pos (by omega), Int.toNat_natCast, wrap_nat hj (by omega)]
        rfl)
    (fun s hs => ⟨s, Ev_now1 (fun k => by simp only [laws_toLatPairS.l0]; rw [if_neg (by omega)]), by
      obtain ⟨h1, h2⟩ := hs
      apply List.ext_getElem?
      intro i
      by_cases hi : i < l.length
      · rw [h2 i hi hi]
        simp [hi]
      · rw [List.getElem?_eq_none (by omega), List.getElem?_eq_none (by simp; omega)]⟩)
    (List.replicate l.length z89) ⟨by simp, fun i _ h => absurd h (by omega)⟩
  obtain ⟨r, hr, rfl⟩ := h
  refine Ev.congr (fun k => ?_) hr
  unfold laws_toLatPairS.f
  rw [if_pos (by omega), Int.toNat_natCast, if_pos (by omega)]
theorem eq_LatPair (l : List S89) (hl : l.length ≤ 1048576) : Ev (fun k => laws_eqLatPairS.f k l l) true := by
  have h := loop (fun k (_ : Unit) i => laws_eqLatPairS.l0 k l l i) l.length (fun _ _ => True) (fun r => r = true)
    (fun j s hj _ => .inl ⟨(), trivial, fun r hr => Ev_eq hr (fun k => by
      simp only [laws_eqLatPairS.l0]
      rw [if_pos (by omega), if_pos (by omega), if_pos (by omega), wrap_nat hj (by omega)]
      simp [laws_eqLatPair.f, laws_eqItmItem.f, laws_eqWinWin.f])⟩)
    (fun s _ => ⟨true, Ev_now1 (fun k => by simp only [laws_eqLatPairS.l0]; rw [if_neg (by omega)]), rfl⟩) () trivial
  obtain ⟨r, hr, rfl⟩ := h
  refine Ev.congr (fun k => ?_) hr
  unfold laws_eqLatPairS.f
  rw [if_pos rfl]
/-- What the marking writes from the number c on. -/
def mk_LatPair (c : Int) : S89 := ⟨⟨c, c + 1, c + 2, c + 3, c + 4⟩, ⟨c + 5, c + 6⟩⟩
theorem mark_LatPair (l : List S89) (hl : l.length ≤ 1048576) : ∃ r, Ev (fun k => laws_markLatPairS.f k l 1) r ∧ r.1 = 1 + 7 * (l.length : Int) ∧ r.2.length = l.length ∧ ∀ i, i < l.length → r.2[i]? = some (mk_LatPair (1 + 7 * (i : Int))) := by
  have h := loop (fun k (s : Int × List S89) i => laws_markLatPairS.l0 k s.2 s.1 i) l.length (fun j s => s.1 = 1 + 7 * (j : Int) ∧ s.2.length = l.length ∧ ∀ i, i < j → s.2[i]? = some (mk_LatPair (1 + 7 * (i : Int)))) (fun r => r.1 = 1 + 7 * (l.length : Int) ∧ r.2.length = l.length ∧ ∀ i, i < l.length → r.2[i]? = some (mk_LatPair (1 + 7 * (i : Int))))
    (fun j s hj hi => by
      obtain ⟨c, s⟩ := s
      obtain ⟨hc, h1, h2⟩ := hi
      simp only at hc h1 h2
      refine .inl ⟨(c + 7, s.set j (mk_LatPair c)), ⟨by simp only; omega, by simp [h1], fun i hij => ?_⟩, fun r hr => Ev_eq hr (fun k => ?_)⟩
      · simp only
        rw [List.getElem?_set]
        by_cases e : j = i
        · subst e
          simp [h1, hj, hc]
        · simp only [e, if_false]
          exact h2 i (by omega)
      · have hjs : j < s.length := by omega
        have rs : ∀ v, rd_T89 (s.set j v) (j : Int) = v := fun v => by rw [rd89_at _ j (by simpa using hjs)]; simp
        have w0 : wrap64 (c + 1) = c + 1 := wrap_id (by omega) (by omega)
        have w1 : wrap64 (c + 1 + 1) = c + 1 + 1 := wrap_id (by omega) (by omega)
        have w2 : wrap64 (c + 1 + 1 + 1) = c + 1 + 1 + 1 := wrap_id (by omega) (by omega)
        have w3 : wrap64 (c + 1 + 1 + 1 + 1) = c + 1 + 1 + 1 + 1 := wrap_id (by omega) (by omega)
        have w4 : wrap64 (c + 1 + 1 + 1 + 1 + 1) = c + 1 + 1 + 1 + 1 + 1 := wrap_id (by omega) (by omega)
        have w5 : wrap64 (c + 1 + 1 + 1 + 1 + 1 + 1) = c + 1 + 1 + 1 + 1 + 1 + 1 := wrap_id (by omega) (by omega)
        have w6 : wrap64 (c + 1 + 1 + 1 + 1 + 1 + 1 + 1) = c + 1 + 1 + 1 + 1 + 1 + 1 + 1 := wrap_id (by omega) (by omega)
        have e1 : mk_LatPair c = ⟨⟨c, c + 1, c + 1 + 1, c + 1 + 1 + 1, c + 1 + 1 + 1 + 1⟩, ⟨c + 1 + 1 + 1 + 1 + 1, c + 1 + 1 + 1 + 1 + 1 + 1⟩⟩ := by simp only [mk_LatPair, Int.add_assoc] <;> rfl
        simp only [laws_markLatPairS.l0]
        rw [if_pos (by omega), if_pos (by omega)]
        simp only [Option.bind_some, Int.toNat_natCast, rs, List.set_set, w0, w1, w2, w3, w4, w5, w6]
        rw [wrap_nat hj (by omega), e1, show c + 7 = c + 1 + 1 + 1 + 1 + 1 + 1 + 1 by omega])
    (fun s hs => ⟨s, Ev_now1 (fun k => by obtain ⟨c, s⟩ := s; obtain ⟨hc, h1, h2⟩ := hs; simp only at h1; simp only [laws_markLatPairS.l0]; rw [if_neg (by omega)]), hs⟩) (1, l) ⟨by simp, rfl, fun i h => absurd h (by omega)⟩
  exact h
theorem rd47_at (l : List S47) (j : Nat) (h : j < l.length) : rd_T47 l (j : Int) = l[j] := by simp [rd_T47, List.getD_eq_getElem?_getD, h]
theorem eq_ItmItem (l : List S47) (hl : l.length ≤ 1048576) : Ev (fun k => laws_eqItmItemS.f k l l) true := by
  have h := loop (fun k (_ : Unit) i => laws_eqItmItemS.l0 k l l i) l.length (fun _ _ => True) (fun r => r = true)
    (fun j s hj _ => .inl ⟨(), trivial, fun r hr => Ev_eq hr (fun k => by
      simp only [laws_eqItmItemS.l0]
      rw [if_pos (by omega), if_pos (by omega), if_pos (by omega), wrap_nat hj (by omega)]
      simp [laws_eqItmItem.f])⟩)
    (fun s _ => ⟨true, Ev_now1 (fun k => by simp only [laws_eqItmItemS.l0]; rw [if_neg (by omega)]), rfl⟩) () trivial
  obtain ⟨r, hr, rfl⟩ := h
  refine Ev.congr (fun k => ?_) hr
  unfold laws_eqItmItemS.f
  rw [if_pos rfl]
/-- What the marking writes from the number c on. -/
def mk_ItmItem (c : Int) : S47 := ⟨c, c + 1, c + 2, c + 3, c + 4⟩
theorem mark_ItmItem (l : List S47) (hl : l.length ≤ 1048576) : ∃ r, Ev (fun k => laws_markItmItemS.f k l 1) r ∧ r.1 = 1 + 5 * (l.length : Int) ∧ r.2.length = l.length ∧ ∀ i, i < l.length → r.2[i]? = some (mk_ItmItem (1 + 5 * (i : Int))) := by
  have h := loop (fun k (s : Int × List S47) i => laws_markItmItemS.l0 k s.2 s.1 i) l.length (fun j s => s.1 = 1 + 5 * (j : Int) ∧ s.2.length = l.length ∧ ∀ i, i < j → s.2[i]? = some (mk_ItmItem (1 + 5 * (i : Int)))) (fun r => r.1 = 1 + 5 * (l.length : Int) ∧ r.2.length = l.length ∧ ∀ i, i < l.length → r.2[i]? = some (mk_ItmItem (1 + 5 * (i : Int))))
    (fun j s hj hi => by
      obtain ⟨c, s⟩ := s
      obtain ⟨hc, h1, h2⟩ := hi
      simp only at hc h1 h2
      refine .inl ⟨(c + 5, s.set j (mk_ItmItem c)), ⟨by simp only; omega, by simp [h1], fun i hij => ?_⟩, fun r hr => Ev_eq hr (fun k => ?_)⟩
      · simp only
        rw [List.getElem?_set]
        by_cases e : j = i
        · subst e
          simp [h1, hj, hc]
        · simp only [e, if_false]
          exact h2 i (by omega)
      · have hjs : j < s.length := by omega
        have rs : ∀ v, rd_T47 (s.set j v) (j : Int) = v := fun v => by rw [rd47_at _ j (by simpa using hjs)]; simp
        have w0 : wrap64 (c + 1) = c + 1 := wrap_id (by omega) (by omega)
        have w1 : wrap64 (c + 1 + 1) = c + 1 + 1 := wrap_id (by omega) (by omega)
        have w2 : wrap64 (c + 1 + 1 + 1) = c + 1 + 1 + 1 := wrap_id (by omega) (by omega)
        have w3 : wrap64 (c + 1 + 1 + 1 + 1) = c + 1 + 1 + 1 + 1 := wrap_id (by omega) (by omega)
        have w4 : wrap64 (c + 1 + 1 + 1 + 1 + 1) = c + 1 + 1 + 1 + 1 + 1 := wrap_id (by omega) (by omega)
        have e1 : mk_ItmItem c = ⟨c, c + 1, c + 1 + 1, c + 1 + 1 + 1, c + 1 + 1 + 1 + 1⟩ := by simp only [mk_ItmItem, Int.add_assoc] <;> rfl
        simp only [laws_markItmItemS.l0]
        rw [if_pos (by omega), if_pos (by omega)]
        simp only [Option.bind_some, Int.toNat_natCast, rs, List.set_set, w0, w1, w2, w3, w4]
        rw [wrap_nat hj (by omega), e1, show c + 5 = c + 1 + 1 + 1 + 1 + 1 by omega])
    (fun s hs => ⟨s, Ev_now1 (fun k => by obtain ⟨c, s⟩ := s; obtain ⟨hc, h1, h2⟩ := hs; simp only at h1; simp only [laws_markItmItemS.l0]; rw [if_neg (by omega)]), hs⟩) (1, l) ⟨by simp, rfl, fun i h => absurd h (by omega)⟩
  exact h
theorem held_ItmItem (l : List S47) (hl : l.length ≤ 1048576) (h : ∀ i, i < l.length → l[i]? = some (mk_ItmItem (1 + 5 * (i : Int)))) : Ev (fun k => laws_heldItmItemS.f k l 1) (1 + 5 * (l.length : Int)) := by
  have h := loop (fun k c i => laws_heldItmItemS.l0 k l c i) l.length (fun j c => c = 1 + 5 * (j : Int)) (fun r => r = 1 + 5 * (l.length : Int))
    (fun j c hj hc => .inl ⟨c + 5, by omega, fun r hr => Ev_eq hr (fun k => by
      have hx := h j hj
      rw [List.getElem?_eq_getElem hj] at hx
      have hx := Option.some.inj hx
      rw [← hc] at hx
      have w0 : wrap64 (c + 1) = c + 1 := wrap_id (by omega) (by omega)
      have w1 : wrap64 (c + 1 + 1) = c + 1 + 1 := wrap_id (by omega) (by omega)
      have w2 : wrap64 (c + 1 + 1 + 1) = c + 1 + 1 + 1 := wrap_id (by omega) (by omega)
      have w3 : wrap64 (c + 1 + 1 + 1 + 1) = c + 1 + 1 + 1 + 1 := wrap_id (by omega) (by omega)
      have w4 : wrap64 (c + 1 + 1 + 1 + 1 + 1) = c + 1 + 1 + 1 + 1 + 1 := wrap_id (by omega) (by omega)
      have e1 : mk_ItmItem c = ⟨c, c + 1, c + 1 + 1, c + 1 + 1 + 1, c + 1 + 1 + 1 + 1⟩ := by simp only [mk_ItmItem, Int.add_assoc] <;> rfl
      simp only [laws_heldItmItemS.l0]
      rw [if_pos (by omega), if_pos (by omega), rd47_at l j hj, hx, e1]
      simp only [w0, w1, w2, w3, w4, if_true]
      rw [wrap_nat hj (by omega), show c + 5 = c + 1 + 1 + 1 + 1 + 1 by omega])⟩)
    (fun c hc => ⟨c, Ev_now1 (fun k => by simp only [laws_heldItmItemS.l0]; rw [if_neg (by omega)]), hc⟩) 1 (by omega)
  obtain ⟨r, hr, rfl⟩ := h
  exact hr
theorem recs_spec (l : List S89) (hl : l.length ≤ 1048576) : Ev (fun k => spec_LatRecs.f k l) (l.map fun x => x.f0) := by
  have h := loop (fun k s i => spec_LatRecs.l0 k l s i) l.length (fun j s => s.length ≤ j ∧ s = (l.take j).map fun x => x.f0) (fun r => r = l.map fun x => x.f0)
    (fun j s hj hi => by
      obtain ⟨h1, h2⟩ := hi
      refine .inl ⟨s ++ [l[j].f0], ⟨by simp; omega, by rw [List.take_succ_eq_append_getElem hj, List.map_append, h2]; rfl⟩, fun r hr => Ev_eq hr (fun k => ?_)⟩
      simp only [spec_LatRecs.l0]
      rw [if_pos (by omega), if_pos (by omega), rd89_at l j hj, wrap_nat hj (by omega), if_pos (by omega)])
    (fun s hs => ⟨s, Ev_now1 (fun k => by simp only [spec_LatRecs.l0]; rw [if_neg (by omega)]), by rw [hs.2, List.take_length]⟩) [] ⟨by simp, by simp⟩
  obtain ⟨r, hr, rfl⟩ := h
  exact hr
theorem recs_impl (l : List S89) (hl : l.length ≤ 1048576) : Ev (fun k => impl_LatRecs.f k l) (l.map fun x => x.f0) := by
  have h := loop (fun k s i => impl_LatRecs.l0 k s l (l.length : Int) i) l.length (fun j s => s.length ≤ j ∧ s = (l.take j).map fun x => x.f0) (fun r => r = l.map fun x => x.f0)
    (fun j s hj hi => by
      obtain ⟨h1, h2⟩ := hi
      refine .inl ⟨s ++ [l[j].f0], ⟨by simp; omega, by rw [List.take_succ_eq_append_getElem hj, List.map_append, h2]; rfl⟩, fun r hr => Ev_eq hr (fun k => ?_)⟩
      simp only [impl_LatRecs.l0]
      rw [if_pos (by omega), if_pos (by omega), if_pos (by omega), rd89_at l j hj, wrap_nat hj (by omega), if_pos (by omega)])
    (fun s hs => ⟨s, Ev_now1 (fun k => by simp only [impl_LatRecs.l0]; rw [if_neg (by omega)]), by rw [hs.2, List.take_length]⟩) [] ⟨by simp, by simp⟩
  obtain ⟨r, hr, rfl⟩ := h
  exact hr

theorem FnExactLatRecs : ∀ (l0 : List S93), l0.length ≤ maxLen → (∀ x ∈ l0, (Lit.int .i64 x.f0.f0).wf = true ∧ (Lit.int .i64 x.f0.f1).wf = true ∧ (Lit.int .i64 x.f0.f2).wf = true ∧ (Lit.int .i64 x.f0.f3).wf = true ∧ (Lit.int .i64 x.f0.f4).wf = true ∧ (Lit.int .i64 x.f1.f0).wf = true ∧ (Lit.int .i64 x.f1.f1).wf = true) → ∃ k, laws_FnExactLatRecs.f k l0 = some true := by
  intro l hm _
  apply Ev.rounds
  simp only [laws_FnExactLatRecs.f, sz_LatPair l 1048576 (by omega) (by omega) hm, Option.bind_some]
  by_cases hl : l.length ≤ 1048576
  · simp only [if_neg (show ¬ (1048576 : Int) - (l.length : Int) < 0 by omega)]
    have hml : (l.map cv_LatPair).length ≤ 1048576 := by simpa using hl
    have hfl : ((l.map cv_LatPair).map fun x => x.f0).length ≤ 1048576 := by simpa using hl
    obtain ⟨m1, hm1, hm2, hm3, hm4⟩ := mark_LatPair _ hml
    obtain ⟨m2, hg1, hg2, hg3, hg4⟩ := mark_ItmItem _ hfl
    have hh : Ev (fun k => laws_heldItmItemS.f k m2.2 1) m2.1 := by
      rw [hg2, ← hg3]
      exact held_ItmItem m2.2 (by omega) (fun i hi => hg4 i (by omega))
    refine Ev.bind (to_LatPair l hl) (Ev.bind (recs_spec _ hml) (Ev.bind (to_LatPair l hl) (Ev.bind (recs_impl _ hml) (Ev.bind (eq_ItmItem _ hfl) ?_))))
    simp only [if_true]
    refine Ev.bind (to_LatPair l hl) (Ev.bind (eq_LatPair _ hml) ?_)
    simp only [if_true]
    refine Ev.bind hm1 ?_
    simp only [if_neg (show ¬ m1.1 < 0 by omega)]
    refine Ev.bind (eq_ItmItem _ hfl) ?_
    simp only [Bool.not_true]
    refine Ev.step (f := fun k => _) (fun k => by simp only [laws_FnExactLatRecs.j0, Bool.false_eq_true, if_false]; rfl) ?_
    refine Ev.bind hg1 (Ev.bind hh ?_)
    simp only [if_neg (show ¬ m2.1 < 0 by omega), if_true]
    refine Ev.bind (to_LatPair l hl) (Ev.bind (recs_impl _ hml) (Ev.bind (eq_ItmItem _ hfl) ?_))
    simp only [if_true]
    refine Ev.bind hh ?_
    simp only [if_neg (show ¬ m2.1 < 0 by omega), if_true]
    exact Ev_const (fun k => rfl)
  · simp only [if_pos (show (1048576 : Int) - (l.length : Int) < 0 by omega)]
    exact Ev_const (fun k => rfl)

end Go.Proofs.Ytofhaglklhmilaa.Pure
