/- The law FnExactTabSame over numbers and lists: the Lean function of it that was printed answers true. No condition but that each number is one of its kind. -/
import Derived.Test.YtkmckalckafloaaPFnExactTabSamex3
import Derived.Test.YtkmckalckafloaaAid
set_option linter.unusedVariables false
set_option linter.unusedSimpArgs false
namespace Go.Proofs.Ytkmckalckafloaa.Pure
open Go.RowKit Go.Proofs.Ytkmckalckafloaa.PFnExactTabSame Go.Proofs.YtkmckalckafloaaW.PrintWords Go.Proofs.YtkmckalckafloaaW.PrintLast Go.Proofs.Ytkmckalckafloaa.Aid

theorem sz_TabRow (l : List S91) (n : Int) (h0 : 0 ≤ n) (h1 : n ≤ 1048576) (hm : l.length ≤ maxLen) : laws_szTabRowS.f l n = some (if n - (l.length : Int) < 0 then -1 else n - (l.length : Int)) := by
  unfold maxLen at hm
  unfold laws_szTabRowS.f
  rw [wrap_id (by omega) (by omega)]
  split <;> rfl
theorem rd91_at (l : List S91) (j : Nat) (h : j < l.length) : rd_T91 l (j : Int) = l[j] := by simp [rd_T91, List.getD_eq_getElem?_getD, h]
theorem rd87_at (l : List S87) (j : Nat) (h : j < l.length) : rd_T87 l (j : Int) = l[j] := by simp [rd_T87, List.getD_eq_getElem?_getD, h]
def cv_TabRow (x : S91) : S87 := ⟨x.f0, ⟨x.f1.f0, x.f1.f1⟩, ⟨x.f2.f0, x.f2.f1, x.f2.f2, x.f2.f3⟩⟩
theorem to_TabRow (l : List S91) (hl : l.length ≤ 1048576) : Ev (fun k => laws_toTabRowS.f k l) (l.map cv_TabRow) := by
  have h := loop (fun k s i => laws_toTabRowS.l0 k l s i) l.length (fun j s => s.length = l.length ∧ ∀ i (hi : i < l.length), i < j → s[i]? = some (cv_TabRow l[i])) (fun r => r = l.map cv_TabRow)
    (fun j s hj hi => by
      obtain ⟨h1, h2⟩ := hi
      refine .inl ⟨s.set j (cv_TabRow l[j]), ⟨by simp [h1], fun i hi hij => ?_⟩, fun r hr => Ev_eq hr (fun k => ?_)⟩
      · rw [List.getElem?_set]
        by_cases e : j = i
        · subst e
          simp [h1, hi]
        · simp only [e, if_false]
          exact h2 i hi (by omega)
      · simp only [laws_toTabRowS.l0]
        rw [if_pos (by omega), if_pos (by omega), rd91_at l j hj]
        simp only [laws_toTabRow.f, laws_toWinWin.f, laws_toAggAgg.f, Option.bind_some]
        rw [if_pos (by omega), Int.toNat_natCast, wrap_nat hj (by omega)]
        rfl)
    (fun s hs => ⟨s, Ev_now1 (fun k => by simp only [laws_toTabRowS.l0]; rw [if_neg (by omega)]), by
      obtain ⟨h1, h2⟩ := hs
      apply List.ext_getElem?
      intro i
      by_cases hi : i < l.length
      · rw [h2 i hi hi]
        simp [hi]
      · rw [List.getElem?_eq_none (by omega), List.getElem?_eq_none (by simp; omega)]⟩)
    (List.replicate l.length z87) ⟨by simp, fun i _ h => absurd h (by omega)⟩
  obtain ⟨r, hr, rfl⟩ := h
  refine Ev.congr (fun k => ?_) hr
  unfold laws_toTabRowS.f
  rw [if_pos (by omega), Int.toNat_natCast, if_pos (by omega)]
theorem eq_TabRow (l : List S87) (hl : l.length ≤ 1048576) : Ev (fun k => laws_eqTabRowS.f k l l) true := by
  have h := loop (fun k (_ : Unit) i => laws_eqTabRowS.l0 k l l i) l.length (fun _ _ => True) (fun r => r = true)
    (fun j s hj _ => .inl ⟨(), trivial, fun r hr => Ev_eq hr (fun k => by
      simp only [laws_eqTabRowS.l0]
      rw [if_pos (by omega), if_pos (by omega), if_pos (by omega), wrap_nat hj (by omega)]
      simp [laws_eqTabRow.f, laws_eqWinWin.f, laws_eqAggAgg.f])⟩)
    (fun s _ => ⟨true, Ev_now1 (fun k => by simp only [laws_eqTabRowS.l0]; rw [if_neg (by omega)]), rfl⟩) () trivial
  obtain ⟨r, hr, rfl⟩ := h
  refine Ev.congr (fun k => ?_) hr
  unfold laws_eqTabRowS.f
  rw [if_pos rfl]
theorem rdO_at (l : List S87) (j : Nat) (h : j < l.length) : rd_T87 l (j : Int) = l.getD j z87 := by simp [rd_T87]
/-- Two rows differ, as Go's '!=' tells it. -/
def dif (x y : S87) : Bool := (!(x.f0 == y.f0) || ((!(x.f1.f0 == y.f1.f0) || (!(x.f1.f1 == y.f1.f1))) || ((!(x.f2.f0 == y.f2.f0) || (!(x.f2.f1 == y.f2.f1) || (!(x.f2.f2 == y.f2.f2) || (!(x.f2.f3 == y.f2.f3))))))))
theorem same_both (l m : List S87) (hl : l.length ≤ 1048576) : ∃ r, Ev (fun k => spec_TabSame.f k l m) r ∧ Ev (fun k => impl_TabSame.f k l m) r := by
  by_cases hlm : l.length = m.length
  · have hlm' : (l.length : Int) = (m.length : Int) := by omega
    have hz : ∀ j, (h : j < (l.zip m).length) → ∃ h1 : j < l.length, ∃ h2 : j < m.length, (l.zip m)[j] = (l[j], m[j]) := fun j h => by
      have h' : j < l.length ∧ j < m.length := by simp only [List.length_zip] at h; omega
      exact ⟨h'.1, h'.2, by simp⟩
    have hzl : (l.zip m).length = l.length := by simp; omega
    refine ⟨runL (fun (_ : Unit) (x : S87 × S87) => if dif x.1 x.2 = true then .inl false else .inr ()) (fun _ => true) (l.zip m) (), ?_, ?_⟩
    · refine Ev.congr (fun k => by unfold spec_TabSame.f; rw [if_pos hlm']) ?_
      refine Ev_run (fun k (_ : Unit) i => spec_TabSame.l0 k l m i) (l.zip m) _ _ (fun _ _ => True) (fun j s hj _ s' hs => ⟨trivial, fun r hr => Ev_eq hr (fun k => ?_)⟩) (fun j s hj _ r hs => Ev_now1 (fun k => ?_)) (fun s _ => Ev_now1 (fun k => by simp only [spec_TabSame.l0]; rw [if_neg (by omega)])) () trivial
      · obtain ⟨h1, h2, e⟩ := hz j hj
        rw [e] at hs
        have hd : dif l[j] m[j] = false := by
          by_cases h : dif l[j] m[j] = true
          · simp [h] at hs
          · simpa using h
        simp only [spec_TabSame.l0]
        rw [if_pos (by omega), if_pos (by omega), if_pos (by omega), rd87_at l j h1, rd87_at m j h2, wrap_nat h1 (by omega)]
        exact if_neg (by unfold dif at hd; rw [hd]; exact Bool.false_ne_true)
      · obtain ⟨h1, h2, e⟩ := hz j hj
        rw [e] at hs
        have hd : dif l[j] m[j] = true ∧ r = false := by
          by_cases h : dif l[j] m[j] = true
          · simp [h] at hs
            exact ⟨h, by simpa using hs⟩
          · simp [h] at hs
        simp only [spec_TabSame.l0]
        rw [if_pos (by omega), if_pos (by omega), if_pos (by omega), rd87_at l j h1, rd87_at m j h2, hd.2]
        exact if_pos (by have := hd.1; unfold dif at this; exact this)
    · refine Ev.congr (f := fun k => (impl_TabRow.l0 k l m (l.length : Int) 0).bind some) (fun k => by unfold impl_TabSame.f impl_TabRow.f; rw [if_pos hlm']) ?_
      refine Ev.bind ?_ (Ev_const (fun k => rfl))
      refine Ev_run (fun k (_ : Unit) i => impl_TabRow.l0 k l m (l.length : Int) i) (l.zip m) _ _ (fun _ _ => True) (fun j s hj _ s' hs => ⟨trivial, fun r hr => Ev_eq hr (fun k => ?_)⟩) (fun j s hj _ r hs => Ev_now1 (fun k => ?_)) (fun s _ => Ev_now1 (fun k => by simp only [impl_TabRow.l0]; rw [if_neg (by omega)])) () trivial
      · obtain ⟨h1, h2, e⟩ := hz j hj
        rw [e] at hs
        have hd : dif l[j] m[j] = false := by
          by_cases h : dif l[j] m[j] = true
          · simp [h] at hs
          · simpa using h
        simp only [impl_TabRow.l0]
        rw [if_pos (by omega), if_pos (by omega), if_pos (by omega), if_pos (by omega), rd87_at l j h1, rd87_at m j h2, wrap_nat h1 (by omega)]
        exact if_neg (by unfold dif at hd; rw [hd]; exact Bool.false_ne_true)
      · obtain ⟨h1, h2, e⟩ := hz j hj
        rw [e] at hs
        have hd : dif l[j] m[j] = true ∧ r = false := by
          by_cases h : dif l[j] m[j] = true
          · simp [h] at hs
            exact ⟨h, by simpa using hs⟩
          · simp [h] at hs
        simp only [impl_TabRow.l0]
        rw [if_pos (by omega), if_pos (by omega), if_pos (by omega), if_pos (by omega), rd87_at l j h1, rd87_at m j h2, hd.2]
        exact if_pos (by have := hd.1; unfold dif at this; exact this)
  · have hlm' : ¬ (l.length : Int) = (m.length : Int) := by omega
    exact ⟨false, Ev_const (fun k => by unfold spec_TabSame.f; rw [if_neg hlm']), Ev_const (fun k => by unfold impl_TabSame.f impl_TabRow.f; rw [if_neg hlm']; rfl)⟩

theorem FnExactTabSame : ∀ (l0 : List S91), l0.length ≤ maxLen → (∀ x ∈ l0, (Lit.int .i64 x.f0).wf = true ∧ (Lit.int .i64 x.f1.f0).wf = true ∧ (Lit.int .i64 x.f1.f1).wf = true ∧ (Lit.int .i64 x.f2.f0).wf = true ∧ (Lit.int .i64 x.f2.f1).wf = true ∧ (Lit.int .i64 x.f2.f2).wf = true ∧ (Lit.int .i64 x.f2.f3).wf = true) → ∀ (l1 : List S91), l1.length ≤ maxLen → (∀ x ∈ l1, (Lit.int .i64 x.f0).wf = true ∧ (Lit.int .i64 x.f1.f0).wf = true ∧ (Lit.int .i64 x.f1.f1).wf = true ∧ (Lit.int .i64 x.f2.f0).wf = true ∧ (Lit.int .i64 x.f2.f1).wf = true ∧ (Lit.int .i64 x.f2.f2).wf = true ∧ (Lit.int .i64 x.f2.f3).wf = true) → ∃ k, laws_FnExactTabSame.f k l0 l1 = some true := by
  intro l hm _ m hm' _
  apply Ev.rounds
  simp only [laws_FnExactTabSame.f, sz_TabRow l 1048576 (by omega) (by omega) hm, Option.bind_some]
  by_cases hl : l.length ≤ 1048576
  · simp only [if_neg (show ¬ (1048576 : Int) - (l.length : Int) < 0 by omega), sz_TabRow m (1048576 - (l.length : Int)) (by omega) (by omega) hm', Option.bind_some]
    by_cases hl' : (1048576 : Int) - (l.length : Int) - (m.length : Int) < 0
    · simp only [if_pos hl']
      exact Ev_const (fun k => rfl)
    · simp only [if_neg hl']
      have hml : (l.map cv_TabRow).length ≤ 1048576 := by simpa using hl
      have hmm : m.length ≤ 1048576 := by omega
      have hmm2 : (m.map cv_TabRow).length ≤ 1048576 := by simpa using hmm
      obtain ⟨r, h1, h2⟩ := same_both (l.map cv_TabRow) (m.map cv_TabRow) hml
      refine Ev.bind (to_TabRow l hl) (Ev.bind (to_TabRow m hmm) (Ev.bind h1 (Ev.bind (to_TabRow l hl) (Ev.bind (to_TabRow m hmm) (Ev.bind h2 ?_)))))
      simp only [bne_self_eq_false, Bool.false_eq_true, if_false]
      refine Ev.bind (to_TabRow l hl) (Ev.bind (eq_TabRow _ hml) ?_)
      simp only [if_true]
      refine Ev.bind (to_TabRow m hmm) (Ev.bind (eq_TabRow _ hmm2) ?_)
      exact Ev_const (fun k => rfl)
  · simp only [if_pos (show (1048576 : Int) - (l.length : Int) < 0 by omega)]
    exact Ev_const (fun k => rfl)

end Go.Proofs.Ytkmckalckafloaa.Pure
