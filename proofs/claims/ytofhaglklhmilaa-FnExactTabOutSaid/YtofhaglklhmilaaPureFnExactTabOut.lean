/- The law FnExactTabOut over numbers and lists: the Lean function of it that was printed answers true. No condition but that each number is one of its kind. -/
import Derived.Test.YtofhaglklhmilaaQFnExactTabOutx5
import Derived.Test.YtofhaglklhmilaaAid
set_option linter.unusedVariables false
set_option linter.unusedSimpArgs false
namespace Go.Proofs.Ytofhaglklhmilaa.Pure
open Go.RowKit Go.Proofs.Ytofhaglklhmilaa.PFnExactTabOut Go.Proofs.YtofhaglklhmilaaW.PrintWords Go.Proofs.YtofhaglklhmilaaW.PrintLast Go.Proofs.Ytofhaglklhmilaa.Aid

theorem sz_TabRow (l : List S85) (n : Int) (h0 : 0 ≤ n) (h1 : n ≤ 1048576) (hm : l.length ≤ maxLen) : laws_szTabRowS.f l n = some (if n - (l.length : Int) < 0 then -1 else n - (l.length : Int)) := by
  unfold maxLen at hm
  unfold laws_szTabRowS.f
  rw [wrap_id (by omega) (by omega)]
  split <;> rfl
theorem rd85_at (l : List S85) (j : Nat) (h : j < l.length) : rd_T85 l (j : Int) = l[j] := by simp [rd_T85, List.getD_eq_getElem?_getD, h]
theorem rd81_at (l : List S81) (j : Nat) (h : j < l.length) : rd_T81 l (j : Int) = l[j] := by simp [rd_T81, List.getD_eq_getElem?_getD, h]
def cv_TabRow (x : S85) : S81 := ⟨x.f0, ⟨x.f1.f0, x.f1.f1⟩, ⟨x.f2.f0, x.f2.f1, x.f2.f2, x.f2.f3⟩⟩
theorem to_TabRow (l : List S85) (hl : l.length ≤ 1048576) : Ev (fun k => laws_toTabRowS.f k l) (l.map cv_TabRow) := by
  have h := loop (fun k s i => laws_toTabRowS.l0 k l s i) l.length (fun j s => s.length = l.length ∧ ∀ i (hi : i < l.length), i < j → s[i]? = some (cv_TabRow l[i])) (fun r => r = l.map cv_TabRow)
    (fun j s hj hi => by
      obtain ⟨h1, h2⟩ := hi
      refine .inl ⟨s.set j (cv_TabRow l[j]), ⟨by simp [h1], fun i hi hij => ?_⟩, fun r hr => Ev_eq hr (fun k => ?_)⟩
      · rw [List.getElem?_set]
        by_cases e : j = i
        · subst e
          simp [h1, hi]
        · simp only [e, if_false]
          exact h2 i hi (by omega)
      · simp only [laws_toTabRowS.l0]
        rw [if_pos (by omega), if_pos (by omega), rd85_at l j hj]
        simp only [laws_toTabRow.f, laws_toWinWin.f, laws_toAggAgg.f, Option.bind_some]
        rw [if_pos (by omega), Int.toNat_natCast, wrap_nat hj (by omega)]
        rfl)
    (fun s hs => ⟨s, Ev_now1 (fun k => by simp only [laws_toTabRowS.l0]; rw [if_neg (by omega)]), by
      obtain ⟨h1, h2⟩ := hs
      apply List.ext_getElem?
      intro i
      by_cases hi : i < l.length
      · rw [h2 i hi hi]
        simp [hi]
      · rw [List.getElem?_eq_none (by omega), List.getElem?_eq_none (by simp; omega)]⟩)
    (List.replicate l.length z81) ⟨by simp, fun i _ h => absurd h (by omega)⟩
  obtain ⟨r, hr, rfl⟩ := h
  refine Ev.congr (fun k => ?_) hr
  unfold laws_toTabRowS.f
  rw [if_pos (by omega), Int.toNat_natCast, if_pos (by omega)]
theorem eq_TabRow (l : List S81) (hl : l.length ≤ 1048576) : Ev (fun k => laws_eqTabRowS.f k l l) true := by
  have h := loop (fun k (_ : Unit) i => laws_eqTabRowS.l0 k l l i) l.length (fun _ _ => True) (fun r => r = true)
    (fun j s hj _ => .inl ⟨(), trivial, fun r hr => Ev_eq hr (fun k => by
      simp only [laws_eqTabRowS.l0]
      rw [if_pos (by omega), if_pos (by omega), if_pos (by omega), wrap_nat hj (by omega)]
      simp [laws_eqTabRow.f, laws_eqWinWin.f, laws_eqAggAgg.f])⟩)
    (fun s _ => ⟨true, Ev_now1 (fun k => by simp only [laws_eqTabRowS.l0]; rw [if_neg (by omega)]), rfl⟩) () trivial
  obtain ⟨r, hr, rfl⟩ := h
  refine Ev.congr (fun k => ?_) hr
  unfold laws_eqTabRowS.f
  rw [if_pos rfl]
/-- What the marking writes from the number c on. -/
def mk_TabRow (c : Int) : S81 := ⟨c, ⟨c + 1, c + 2⟩, ⟨c + 3, c + 4, c + 5, c + 6⟩⟩
theorem mark_TabRow (l : List S81) (hl : l.length ≤ 1048576) : ∃ r, Ev (fun k => laws_markTabRowS.f k l 1) r ∧ r.1 = 1 + 7 * (l.length : Int) ∧ r.2.length = l.length ∧ ∀ i, i < l.length → r.2[i]? = some (mk_TabRow (1 + 7 * (i : Int))) := by
  have h := loop (fun k (s : Int × List S81) i => laws_markTabRowS.l0 k s.2 s.1 i) l.length (fun j s => s.1 = 1 + 7 * (j : Int) ∧ s.2.length = l.length ∧ ∀ i, i < j → s.2[i]? = some (mk_TabRow (1 + 7 * (i : Int)))) (fun r => r.1 = 1 + 7 * (l.length : Int) ∧ r.2.length = l.length ∧ ∀ i, i < l.length → r.2[i]? = some (mk_TabRow (1 + 7 * (i : Int))))
    (fun j s hj hi => by
      obtain ⟨c, s⟩ := s
      obtain ⟨hc, h1, h2⟩ := hi
      simp only at hc h1 h2
      refine .inl ⟨(c + 7, s.set j (mk_TabRow c)), ⟨by simp only; omega, by simp [h1], fun i hij => ?_⟩, fun r hr => Ev_eq hr (fun k => ?_)⟩
      · simp only
        rw [List.getElem?_set]
        by_cases e : j = i
        · subst e
          simp [h1, hj, hc]
        · simp only [e, if_false]
          exact h2 i (by omega)
      · have hjs : j < s.length := by omega
        have rs : ∀ v, rd_T81 (s.set j v) (j : Int) = v := fun v => by rw [rd81_at _ j (by simpa using hjs)]; simp
        have w0 : wrap64 (c + 1) = c + 1 := wrap_id (by omega) (by omega)
        have w1 : wrap64 (c + 1 + 1) = c + 1 + 1 := wrap_id (by omega) (by omega)
        have w2 : wrap64 (c + 1 + 1 + 1) = c + 1 + 1 + 1 := wrap_id (by omega) (by omega)
        have w3 : wrap64 (c + 1 + 1 + 1 + 1) = c + 1 + 1 + 1 + 1 := wrap_id (by omega) (by omega)
        have w4 : wrap64 (c + 1 + 1 + 1 + 1 + 1) = c + 1 + 1 + 1 + 1 + 1 := wrap_id (by omega) (by omega)
        have w5 : wrap64 (c + 1 + 1 + 1 + 1 + 1 + 1) = c + 1 + 1 + 1 + 1 + 1 + 1 := wrap_id (by omega) (by omega)
        have w6 : wrap64 (c + 1 + 1 + 1 + 1 + 1 + 1 + 1) = c + 1 + 1 + 1 + 1 + 1 + 1 + 1 := wrap_id (by omega) (by omega)
        have e1 : mk_TabRow c = ⟨c, ⟨c + 1, c + 1 + 1⟩, ⟨c + 1 + 1 + 1, c + 1 + 1 + 1 + 1, c + 1 + 1 + 1 + 1 + 1, c + 1 + 1 + 1 + 1 + 1 + 1⟩⟩ := by simp only [mk_TabRow, Int.add_assoc] <;> rfl
        simp only [laws_markTabRowS.l0]
        rw [if_pos (by omega), if_pos (by omega)]
        simp only [Option.bind_some, Int.toNat_natCast, rs, List.set_set, w0, w1, w2, w3, w4, w5, w6]
        rw [wrap_nat hj (by omega), e1, show c + 7 = c + 1 + 1 + 1 + 1 + 1 + 1 + 1 by omega])
    (fun s hs => ⟨s, Ev_now1 (fun k => by obtain ⟨c, s⟩ := s; obtain ⟨hc, h1, h2⟩ := hs; simp only at h1; simp only [laws_markTabRowS.l0]; rw [if_neg (by omega)]), hs⟩) (1, l) ⟨by simp, rfl, fun i h => absurd h (by omega)⟩
  exact h
theorem held_TabRow (l : List S81) (hl : l.length ≤ 1048576) (h : ∀ i, i < l.length → l[i]? = some (mk_TabRow (1 + 7 * (i : Int)))) : Ev (fun k => laws_heldTabRowS.f k l 1) (1 + 7 * (l.length : Int)) := by
  have h := loop (fun k c i => laws_heldTabRowS.l0 k l c i) l.length (fun j c => c = 1 + 7 * (j : Int)) (fun r => r = 1 + 7 * (l.length : Int))
    (fun j c hj hc => .inl ⟨c + 7, by omega, fun r hr => Ev_eq hr (fun k => by
      have hx := h j hj
      rw [List.getElem?_eq_getElem hj] at hx
      have hx := Option.some.inj hx
      rw [← hc] at hx
      have w0 : wrap64 (c + 1) = c + 1 := wrap_id (by omega) (by omega)
      have w1 : wrap64 (c + 1 + 1) = c + 1 + 1 := wrap_id (by omega) (by omega)
      have w2 : wrap64 (c + 1 + 1 + 1) = c + 1 + 1 + 1 := wrap_id (by omega) (by omega)
      have w3 : wrap64 (c + 1 + 1 + 1 + 1) = c + 1 + 1 + 1 + 1 := wrap_id (by omega) (by omega)
      have w4 : wrap64 (c + 1 + 1 + 1 + 1 + 1) = c + 1 + 1 + 1 + 1 + 1 := wrap_id (by omega) (by omega)
      have w5 : wrap64 (c + 1 + 1 + 1 + 1 + 1 + 1) = c + 1 + 1 + 1 + 1 + 1 + 1 := wrap_id (by omega) (by omega)
      have w6 : wrap64 (c + 1 + 1 + 1 + 1 + 1 + 1 + 1) = c + 1 + 1 + 1 + 1 + 1 + 1 + 1 := wrap_id (by omega) (by omega)
      have e1 : mk_TabRow c = ⟨c, ⟨c + 1, c + 1 + 1⟩, ⟨c + 1 + 1 + 1, c + 1 + 1 + 1 + 1, c + 1 + 1 + 1 + 1 + 1, c + 1 + 1 + 1 + 1 + 1 + 1⟩⟩ := by simp only [mk_TabRow, Int.add_assoc] <;> rfl
      simp only [laws_heldTabRowS.l0]
      rw [if_pos (by omega), if_pos (by omega), rd81_at l j hj, hx, e1]
      simp only [w0, w1, w2, w3, w4, w5, w6, if_true]
      rw [wrap_nat hj (by omega), show c + 7 = c + 1 + 1 + 1 + 1 + 1 + 1 + 1 by omega])⟩)
    (fun c hc => ⟨c, Ev_now1 (fun k => by simp only [laws_heldTabRowS.l0]; rw [if_neg (by omega)]), hc⟩) 1 (by omega)
  obtain ⟨r, hr, rfl⟩ := h
  exact hr
/-- A row of a key and window. -/
def isOf (key a b : Int) (x : S81) : Bool := decide (x.f0 = key) && (x.f1.f0 == a && (x.f1.f1 == b))
theorem out_spec (l : List S81) (key a b : Int) (hl : l.length ≤ 1048576) : Ev (fun k => spec_TabOut.f k l key a b) (l.filter fun x => !isOf key a b x) := by
  have h := loop (fun k s i => spec_TabOut.l0 k l key s i a b) l.length (fun j s => s.length ≤ j ∧ s = (l.take j).filter fun x => !isOf key a b x) (fun r => r = l.filter fun x => !isOf key a b x)
    (fun j s hj hi => by
      obtain ⟨h1, h2⟩ := hi
      have ht : (l.take (j + 1)).filter (fun x => !isOf key a b x) = s ++ (if isOf key a b l[j] = true then [] else [l[j]]) := by
        rw [List.take_succ_eq_append_getElem hj, List.filter_append, h2]
        congr 1
        cases h : isOf key a b l[j] <;> simp [h]
      by_cases h : isOf key a b l[j] = true
      · rw [if_pos h, List.append_nil] at ht
        refine .inl ⟨s, ⟨by omega, ht.symm⟩, fun r hr => Ev_eq hr (fun k => ?_)⟩
        simp only [spec_TabOut.l0]
        rw [if_pos (by omega), if_pos (by omega), rd81_at l j hj, wrap_nat hj (by omega)]
        unfold isOf at h
        simp only [Bool.and_eq_true, decide_eq_true_eq, beq_iff_eq] at h
        rw [if_pos h.1, if_neg (by simp [h.2])]
      · rw [if_neg h] at ht
        refine .inl ⟨s ++ [l[j]], ⟨by simp; omega, ht.symm⟩, fun r hr => Ev_eq hr (fun k => ?_)⟩
        simp only [spec_TabOut.l0]
        rw [if_pos (by omega), if_pos (by omega), rd81_at l j hj, wrap_nat hj (by omega)]
        unfold isOf at h
        by_cases h3 : l[j].f0 = key
        · rw [if_pos h3, if_pos (by simp [h3] at h; simp; omega), if_pos (by omega)]
        · rw [if_neg h3, if_pos (by omega)])
    (fun s hs => ⟨s, Ev_now1 (fun k => by simp only [spec_TabOut.l0]; rw [if_neg (by omega)]), by rw [hs.2, List.take_length]⟩) [] ⟨by simp, by simp⟩
  obtain ⟨r, hr, rfl⟩ := h
  exact hr
theorem out_impl (l : List S81) (key a b : Int) (hl : l.length ≤ 1048576) : Ev (fun k => impl_TabOut.f k l key a b) (l.filter fun x => !isOf key a b x) := by
  have h := loop (fun k s i => impl_TabOut.l0 k key s l (l.length : Int) i a b) l.length (fun j s => s.length ≤ j ∧ s = (l.take j).filter fun x => !isOf key a b x) (fun r => r = l.filter fun x => !isOf key a b x)
    (fun j s hj hi => by
      obtain ⟨h1, h2⟩ := hi
      have ht : (l.take (j + 1)).filter (fun x => !isOf key a b x) = s ++ (if isOf key a b l[j] = true then [] else [l[j]]) := by
        rw [List.take_succ_eq_append_getElem hj, List.filter_append, h2]
        congr 1
        cases h : isOf key a b l[j] <;> simp [h]
      have ho : impl_TabRow_of.f l[j].f0 l[j].f1.f0 l[j].f1.f1 l[j].f2.f0 l[j].f2.f1 l[j].f2.f2 l[j].f2.f3 key a b = some (isOf key a b l[j]) := by
        unfold impl_TabRow_of.f isOf
        by_cases h3 : l[j].f0 = key
        · rw [if_pos h3, decide_eq_true h3]; rfl
        · rw [if_neg h3, decide_eq_false h3]; rfl
      by_cases h : isOf key a b l[j] = true
      · rw [if_pos h, List.append_nil] at ht
        refine .inl ⟨s, ⟨by omega, ht.symm⟩, fun r hr => Ev_eq hr (fun k => ?_)⟩
        simp only [impl_TabOut.l0]
        rw [if_pos (by omega), if_pos (by omega), if_pos (by omega), rd81_at l j hj, wrap_nat hj (by omega), ho, h]
        rfl
      · rw [if_neg h] at ht
        refine .inl ⟨s ++ [l[j]], ⟨by simp; omega, ht.symm⟩, fun r hr => Ev_eq hr (fun k => ?_)⟩
        simp only [impl_TabOut.l0]
        rw [if_pos (by omega), if_pos (by omega), if_pos (by omega), rd81_at l j hj, wrap_nat hj (by omega), ho]
        simp only [Option.bind_some]
        rw [if_neg h, if_pos (by omega)])
    (fun s hs => ⟨s, Ev_now1 (fun k => by simp only [impl_TabOut.l0]; rw [if_neg (by omega)]), by rw [hs.2, List.take_length]⟩) [] ⟨by simp, by simp⟩
  obtain ⟨r, hr, rfl⟩ := h
  exact hr

theorem FnExactTabOut : ∀ (l0 : List S85), l0.length ≤ maxLen → (∀ x ∈ l0, (Lit.int .i64 x.f0).wf = true ∧ (Lit.int .i64 x.f1.f0).wf = true ∧ (Lit.int .i64 x.f1.f1).wf = true ∧ (Lit.int .i64 x.f2.f0).wf = true ∧ (Lit.int .i64 x.f2.f1).wf = true ∧ (Lit.int .i64 x.f2.f2).wf = true ∧ (Lit.int .i64 x.f2.f3).wf = true) → ∀ (a1 : Int), (Lit.int .i64 a1).wf = true → ∀ (a2_0 : Int) (a2_1 : Int), (Lit.int .i64 a2_0).wf = true → (Lit.int .i64 a2_1).wf = true → ∃ k, laws_FnExactTabOut.f k l0 a1 a2_0 a2_1 = some true := by
  intro l hm _ key _ a b _ _
  apply Ev.rounds
  simp only [laws_FnExactTabOut.f, sz_TabRow l 1048576 (by omega) (by omega) hm, Option.bind_some, laws_toWinWin.f]
  by_cases hl : l.length ≤ 1048576
  · simp only [if_neg (show ¬ (1048576 : Int) - (l.length : Int) < 0 by omega)]
    have hml : (l.map cv_TabRow).length ≤ 1048576 := by simpa using hl
    have hfl : ((l.map cv_TabRow).filter fun x => !isOf key a b x).length ≤ 1048576 := Nat.le_trans (List.length_filter_le _ _) hml
    obtain ⟨m1, hm1, hm2, hm3, hm4⟩ := mark_TabRow _ hml
    obtain ⟨m2, hg1, hg2, hg3, hg4⟩ := mark_TabRow _ hfl
    have hh : Ev (fun k => laws_heldTabRowS.f k m2.2 1) m2.1 := by
      rw [hg2, ← hg3]
      exact held_TabRow m2.2 (by omega) (fun i hi => hg4 i (by omega))
    refine Ev.bind (to_TabRow l hl) (Ev.bind (out_spec _ key a b hml) (Ev.bind (to_TabRow l hl) (Ev.bind (out_impl _ key a b hml) (Ev.bind (eq_TabRow _ hfl) ?_))))
    simp only [if_true]
    refine Ev.bind (to_TabRow l hl) (Ev.bind (eq_TabRow _ hml) ?_)
    simp only [if_true]
    refine Ev.bind hm1 ?_
    simp only [if_neg (show ¬ m1.1 < 0 by omega)]
    refine Ev.bind (eq_TabRow _ hfl) ?_
    simp only [Bool.not_true]
    refine Ev.step (f := fun k => _) (fun k => by simp only [laws_FnExactTabOut.j0, laws_toWinWin.f, Option.bind_some, Bool.false_eq_true, if_false]; rfl) ?_
    refine Ev.bind hg1 (Ev.bind hh ?_)
    simp only [if_neg (show ¬ m2.1 < 0 by omega), if_true]
    refine Ev.bind (to_TabRow l hl) (Ev.bind (out_impl _ key a b hml) (Ev.bind (eq_TabRow _ hfl) ?_))
    simp only [if_true]
    refine Ev.bind hh ?_
    simp only [if_neg (show ¬ m2.1 < 0 by omega), if_true]
    exact Ev_const (fun k => rfl)
  · simp only [if_pos (show (1048576 : Int) - (l.length : Int) < 0 by omega)]
    exact Ev_const (fun k => rfl)

end Go.Proofs.Ytofhaglklhmilaa.Pure
