/- The law FnExactTabCount over numbers and lists: the Lean function of it that was printed answers true. No condition but that each number is one of its kind. -/
import Derived.Test.YtgmkfhgebinfgaaPFnExactTabCountx2
import Derived.Test.YtgmkfhgebinfgaaAid
set_option linter.unusedVariables false
set_option linter.unusedSimpArgs false
namespace Go.Proofs.Ytgmkfhgebinfgaa.Pure
open Go.RowKit Go.Proofs.Ytgmkfhgebinfgaa.PFnExactTabCount Go.Proofs.YtgmkfhgebinfgaaW.PrintWords Go.Proofs.YtgmkfhgebinfgaaW.PrintLast Go.Proofs.Ytgmkfhgebinfgaa.Aid

theorem sz_TabRow (l : List S101) (n : Int) (h0 : 0 ≤ n) (h1 : n ≤ 1048576) (hm : l.length ≤ maxLen) : laws_szTabRowS.f l n = some (if n - (l.length : Int) < 0 then -1 else n - (l.length : Int)) := by
  unfold maxLen at hm
  unfold laws_szTabRowS.f
  rw [wrap_id (by omega) (by omega)]
  split <;> rfl
theorem rd101_at (l : List S101) (j : Nat) (h : j < l.length) : rd_T101 l (j : Int) = l[j] := by simp [rd_T101, List.getD_eq_getElem?_getD, h]
theorem rd98_at (l : List S98) (j : Nat) (h : j < l.length) : rd_T98 l (j : Int) = l[j] := by simp [rd_T98, List.getD_eq_getElem?_getD, h]
def cv_TabRow (x : S101) : S98 := ⟨x.f0, ⟨x.f1.f0, x.f1.f1⟩, ⟨x.f2.f0, x.f2.f1, x.f2.f2, x.f2.f3⟩⟩
theorem to_TabRow (l : List S101) (hl : l.length ≤ 1048576) : Ev (fun k => laws_toTabRowS.f k l) (l.map cv_TabRow) := by
  have h := loop (fun k s i => laws_toTabRowS.l0 k l s i) l.length (fun j s => s.length = l.length ∧ ∀ i (hi : i < l.length), i < j → s[i]? = some (cv_TabRow l[i])) (fun r => r = l.map cv_TabRow)
    (fun j s hj hi => by
      obtain ⟨h1, h2⟩ := hi
      refine .inl ⟨s.set j (cv_TabRow l[j]), ⟨by simp [h1], fun i hi hij => ?_⟩, fun r hr => Ev_eq hr (fun k => ?_)⟩
      · rw [List.getElem?_set]
        by_cases e : j = i
        · subst e
          simp [h1, hi]
        · simp only [e, if_false]
          exact h2 i hi (by omega)
      · simp only [laws_toTabRowS.l0]
        rw [if_pos (by omega), if_pos (by omega), rd101_at l j hj]
        simp only [laws_toTabRow.f, laws_toWinWin.f, laws_toAggAgg.f, Option.bind_some]
        rw [if_pos (by omega), Int.toNat_natCast, wrap_nat hj (by omega)]
        rfl)
    (fun s hs => ⟨s, Ev_now1 (fun k => by simp only [laws_toTabRowS.l0]; rw [if_neg (by omega)]), by
      obtain ⟨h1, h2⟩ := hs
      apply List.ext_getElem?
      intro i
      by_cases hi : i < l.length
      · rw [h2 i hi hi]
        simp [hi]
      · rw [List.getElem?_eq_none (by omega), List.getElem?_eq_none (by simp; omega)]⟩)
    (List.replicate l.length z98) ⟨by simp, fun i _ h => absurd h (by omega)⟩
  obtain ⟨r, hr, rfl⟩ := h
  refine Ev.congr (fun k => ?_) hr
  unfold laws_toTabRowS.f
  rw [if_pos (by omega), Int.toNat_natCast, if_pos (by omega)]
theorem eq_TabRow (l : List S98) (hl : l.length ≤ 1048576) : Ev (fun k => laws_eqTabRowS.f k l l) true := by
  have h := loop (fun k (_ : Unit) i => laws_eqTabRowS.l0 k l l i) l.length (fun _ _ => True) (fun r => r = true)
    (fun j s hj _ => .inl ⟨(), trivial, fun r hr => Ev_eq hr (fun k => by
      simp only [laws_eqTabRowS.l0]
      rw [if_pos (by omega), if_pos (by omega), if_pos (by omega), wrap_nat hj (by omega)]
      simp [laws_eqTabRow.f, laws_eqWinWin.f, laws_eqAggAgg.f])⟩)
    (fun s _ => ⟨true, Ev_now1 (fun k => by simp only [laws_eqTabRowS.l0]; rw [if_neg (by omega)]), rfl⟩) () trivial
  obtain ⟨r, hr, rfl⟩ := h
  refine Ev.congr (fun k => ?_) hr
  unfold laws_eqTabRowS.f
  rw [if_pos rfl]
theorem count_both (l : List S98) (hl : l.length ≤ 1048576) : ∃ r, Ev (fun k => spec_TabCount.f k l) r ∧ Ev (fun k => impl_TabCount.f k l) r := by
  refine ⟨runL (fun s (x : S98) => .inr (wrap64 (s + x.f2.f0))) id l 0, ?_, ?_⟩
  · exact Ev_run (fun k s i => spec_TabCount.l0 k l s i) l _ id (fun _ _ => True) (fun j s hj _ s' hs => ⟨trivial, fun r hr => Ev_eq hr (fun k => by
      obtain rfl := Sum.inr.inj hs
      simp only [spec_TabCount.l0]
      rw [if_pos (by omega), if_pos (by omega), rd98_at l j hj, wrap_nat hj (by omega)])⟩) (fun j s hj _ r h => by cases h) (fun s _ => Ev_now1 (fun k => by simp only [spec_TabCount.l0]; rw [if_neg (by omega)]; rfl)) 0 trivial
  · exact Ev_run (fun k s i => impl_TabCount.l0 k s l (l.length : Int) i) l _ id (fun _ _ => True) (fun j s hj _ s' hs => ⟨trivial, fun r hr => Ev_eq hr (fun k => by
      obtain rfl := Sum.inr.inj hs
      simp only [impl_TabCount.l0]
      rw [if_pos (by omega), if_pos (by omega), if_pos (by omega), rd98_at l j hj, wrap_nat hj (by omega)])⟩) (fun j s hj _ r h => by cases h) (fun s _ => Ev_now1 (fun k => by simp only [impl_TabCount.l0]; rw [if_neg (by omega)]; rfl)) 0 trivial

theorem FnExactTabCount : ∀ (l0 : List S101), l0.length ≤ maxLen → (∀ x ∈ l0, (Lit.int .i64 x.f0).wf = true ∧ (Lit.int .i64 x.f1.f0).wf = true ∧ (Lit.int .i64 x.f1.f1).wf = true ∧ (Lit.int .i64 x.f2.f0).wf = true ∧ (Lit.int .i64 x.f2.f1).wf = true ∧ (Lit.int .i64 x.f2.f2).wf = true ∧ (Lit.int .i64 x.f2.f3).wf = true) → ∃ k, laws_FnExactTabCount.f k l0 = some true := by
  intro l hm _
  apply Ev.rounds
  simp only [laws_FnExactTabCount.f, sz_TabRow l 1048576 (by omega) (by omega) hm, Option.bind_some]
  by_cases hl : l.length ≤ 1048576
  · rw [if_neg (show ¬ (1048576 : Int) - (l.length : Int) < 0 by omega)]
    simp only [if_neg (show ¬ (1048576 : Int) - (l.length : Int) < 0 by omega)]
    obtain ⟨r, h1, h2⟩ := count_both (l.map cv_TabRow) (by simpa using hl)
    refine Ev.bind (to_TabRow l hl) (Ev.bind h1 (Ev.bind (to_TabRow l hl) (Ev.bind h2 ?_)))
    simp only [if_true]
    refine Ev.bind (to_TabRow l hl) (Ev.bind (eq_TabRow _ (by simpa using hl)) ?_)
    exact Ev_const (fun k => rfl)
  · rw [if_pos (show (1048576 : Int) - (l.length : Int) < 0 by omega)]
    exact Ev_const (fun k => rfl)

end Go.Proofs.Ytgmkfhgebinfgaa.Pure
