/- The law FnExactPanOf over numbers and lists: the Lean function of it that was printed answers true. No condition but that each number is one of its kind. -/
import Derived.Test.YtofhaglklhmilaaQFnExactPanOfx5
import Derived.Test.YtofhaglklhmilaaAid
set_option linter.unusedVariables false
set_option linter.unusedSimpArgs false
namespace Go.Proofs.Ytofhaglklhmilaa.Pure
open Go.RowKit Go.Proofs.Ytofhaglklhmilaa.PFnExactPanOf Go.Proofs.YtofhaglklhmilaaW.PrintWords Go.Proofs.YtofhaglklhmilaaW.PrintLast Go.Proofs.Ytofhaglklhmilaa.Aid

theorem sz_PanPane (l : List S100) (n : Int) (h0 : 0 ≤ n) (h1 : n ≤ 1048576) (hm : l.length ≤ maxLen) : laws_szPanPaneS.f l n = some (if n - (l.length : Int) < 0 then -1 else n - (l.length : Int)) := by
  unfold maxLen at hm
  unfold laws_szPanPaneS.f
  rw [wrap_id (by omega) (by omega)]
  split <;> rfl
theorem rd100_at (l : List S100) (j : Nat) (h : j < l.length) : rd_T100 l (j : Int) = l[j] := by simp [rd_T100, List.getD_eq_getElem?_getD, h]
theorem rd97_at (l : List S97) (j : Nat) (h : j < l.length) : rd_T97 l (j : Int) = l[j] := by simp [rd_T97, List.getD_eq_getElem?_getD, h]
def cv_PanPane (x : S100) : S97 := ⟨x.f0, ⟨x.f1.f0, x.f1.f1⟩, x.f2, x.f3, ⟨x.f4.f0, x.f4.f1, x.f4.f2, x.f4.f3⟩⟩
theorem to_PanPane (l : List S100) (hl : l.length ≤ 1048576) : Ev (fun k => laws_toPanPaneS.f k l) (l.map cv_PanPane) := by
  have h := loop (fun k s i => laws_toPanPaneS.l0 k l s i) l.length (fun j s => s.length = l.length ∧ ∀ i (hi : i < l.length), i < j → s[i]? = some (cv_PanPane l[i])) (fun r => r = l.map cv_PanPane)
    (fun j s hj hi => by
      obtain ⟨h1, h2⟩ := hi
      refine .inl ⟨s.set j (cv_PanPane l[j]), ⟨by simp [h1], fun i hi hij => ?_⟩, fun r hr => Ev_eq hr (fun k => ?_)⟩
      · rw [List.getElem?_set]
        by_cases e : j = i
        · subst e
          simp [h1, hi]
        · simp only [e, if_false]
          exact h2 i hi (by omega)
      · simp only [laws_toPanPaneS.l0]
        rw [if_pos (by omega), if_pos (by omega), rd100_at l j hj]
        simp only [laws_toPanPane.f, laws_toWinWin.f, laws_toAggAgg.f, Option.bind_some]
        rw [if_pos (by omega), Int.toNat_natCast, wrap_nat hj (by omega)]
        rfl)
    (fun s hs => ⟨s, Ev_now1 (fun k => by simp only [laws_toPanPaneS.l0]; rw [if_neg (by omega)]), by
      obtain ⟨h1, h2⟩ := hs
      apply List.ext_getElem?
      intro i
      by_cases hi : i < l.length
      · rw [h2 i hi hi]
        simp [hi]
      · rw [List.getElem?_eq_none (by omega), List.getElem?_eq_none (by simp; omega)]⟩)
    (List.replicate l.length z97) ⟨by simp, fun i _ h => absurd h (by omega)⟩
  obtain ⟨r, hr, rfl⟩ := h
  refine Ev.congr (fun k => ?_) hr
  unfold laws_toPanPaneS.f
  rw [if_pos (by omega), Int.toNat_natCast, if_pos (by omega)]
theorem eq_PanPane (l : List S97) (hl : l.length ≤ 1048576) : Ev (fun k => laws_eqPanPaneS.f k l l) true := by
  have h := loop (fun k (_ : Unit) i => laws_eqPanPaneS.l0 k l l i) l.length (fun _ _ => True) (fun r => r = true)
    (fun j s hj _ => .inl ⟨(), trivial, fun r hr => Ev_eq hr (fun k => by
      simp only [laws_eqPanPaneS.l0]
      rw [if_pos (by omega), if_pos (by omega), if_pos (by omega), wrap_nat hj (by omega)]
      simp [laws_eqPanPane.f, laws_eqWinWin.f, laws_eqAggAgg.f])⟩)
    (fun s _ => ⟨true, Ev_now1 (fun k => by simp only [laws_eqPanPaneS.l0]; rw [if_neg (by omega)]), rfl⟩) () trivial
  obtain ⟨r, hr, rfl⟩ := h
  refine Ev.congr (fun k => ?_) hr
  unfold laws_eqPanPaneS.f
  rw [if_pos rfl]
/-- What the marking writes from the number c on. -/
def mk_PanPane (c : Int) : S97 := ⟨c, ⟨c + 1, c + 2⟩, c + 3, c + 4, ⟨c + 5, c + 6, c + 7, c + 8⟩⟩
theorem mark_PanPane (l : List S97) (hl : l.length ≤ 1048576) : ∃ r, Ev (fun k => laws_markPanPaneS.f k l 1) r ∧ r.1 = 1 + 9 * (l.length : Int) ∧ r.2.length = l.length ∧ ∀ i, i < l.length → r.2[i]? = some (mk_PanPane (1 + 9 * (i : Int))) := by
  have h := loop (fun k (s : Int × List S97) i => laws_markPanPaneS.l0 k s.2 s.1 i) l.length (fun j s => s.1 = 1 + 9 * (j : Int) ∧ s.2.length = l.length ∧ ∀ i, i < j → s.2[i]? = some (mk_PanPane (1 + 9 * (i : Int)))) (fun r => r.1 = 1 + 9 * (l.length : Int) ∧ r.2.length = l.length ∧ ∀ i, i < l.length → r.2[i]? = some (mk_PanPane (1 + 9 * (i : Int))))
    (fun j s hj hi => by
      obtain ⟨c, s⟩ := s
      obtain ⟨hc, h1, h2⟩ := hi
      simp only at hc h1 h2
      refine .inl ⟨(c + 9, s.set j (mk_PanPane c)), ⟨by simp only; omega, by simp [h1], fun i hij => ?_⟩, fun r hr => Ev_eq hr (fun k => ?_)⟩
      · simp only
        rw [List.getElem?_set]
        by_cases e : j = i
        · subst e
          simp [h1, hj, hc]
        · simp only [e, if_false]
          exact h2 i (by omega)
      · have hjs : j < s.length := by omega
        have rs : ∀ v, rd_T97 (s.set j v) (j : Int) = v := fun v => by rw [rd97_at _ j (by simpa using hjs)]; simp
        have w0 : wrap64 (c + 1) = c + 1 := wrap_id (by omega) (by omega)
        have w1 : wrap64 (c + 1 + 1) = c + 1 + 1 := wrap_id (by omega) (by omega)
        have w2 : wrap64 (c + 1 + 1 + 1) = c + 1 + 1 + 1 := wrap_id (by omega) (by omega)
        have w3 : wrap64 (c + 1 + 1 + 1 + 1) = c + 1 + 1 + 1 + 1 := wrap_id (by omega) (by omega)
        have w4 : wrap64 (c + 1 + 1 + 1 + 1 + 1) = c + 1 + 1 + 1 + 1 + 1 := wrap_id (by omega) (by omega)
        have w5 : wrap64 (c + 1 + 1 + 1 + 1 + 1 + 1) = c + 1 + 1 + 1 + 1 + 1 + 1 := wrap_id (by omega) (by omega)
        have w6 : wrap64 (c + 1 + 1 + 1 + 1 + 1 + 1 + 1) = c + 1 + 1 + 1 + 1 + 1 + 1 + 1 := wrap_id (by omega) (by omega)
        have w7 : wrap64 (c + 1 + 1 + 1 + 1 + 1 + 1 + 1 + 1) = c + 1 + 1 + 1 + 1 + 1 + 1 + 1 + 1 := wrap_id (by omega) (by omega)
        have w8 : wrap64 (c + 1 + 1 + 1 + 1 + 1 + 1 + 1 + 1 + 1) = c + 1 + 1 + 1 + 1 + 1 + 1 + 1 + 1 + 1 := wrap_id (by omega) (by omega)
        have e1 : mk_PanPane c = ⟨c, ⟨c + 1, c + 1 + 1⟩, c + 1 + 1 + 1, c + 1 + 1 + 1 + 1, ⟨c + 1 + 1 + 1 + 1 + 1, c + 1 + 1 + 1 + 1 + 1 + 1, c + 1 + 1 + 1 + 1 + 1 + 1 + 1, c + 1 + 1 + 1 + 1 + 1 + 1 + 1 + 1⟩⟩ := by simp only [mk_PanPane, Int.add_assoc] <;> rfl
        simp only [laws_markPanPaneS.l0]
        rw [if_pos (by omega), if_pos (by omega)]
        simp only [Option.bind_some, Int.toNat_natCast, rs, List.set_set, w0, w1, w2, w3, w4, w5, w6, w7, w8]
        rw [wrap_nat hj (by omega), e1, show c + 9 = c + 1 + 1 + 1 + 1 + 1 + 1 + 1 + 1 + 1 by omega])
    (fun s hs => ⟨s, Ev_now1 (fun k => by obtain ⟨c, s⟩ := s; obtain ⟨hc, h1, h2⟩ := hs; simp only at h1; simp only [laws_markPanPaneS.l0]; rw [if_neg (by omega)]), hs⟩) (1, l) ⟨by simp, rfl, fun i h => absurd h (by omega)⟩
  exact h
theorem held_PanPane (l : List S97) (hl : l.length ≤ 1048576) (h : ∀ i, i < l.length → l[i]? = some (mk_PanPane (1 + 9 * (i : Int)))) : Ev (fun k => laws_heldPanPaneS.f k l 1) (1 + 9 * (l.length : Int)) := by
  have h := loop (fun k c i => laws_heldPanPaneS.l0 k l c i) l.length (fun j c => c = 1 + 9 * (j : Int)) (fun r => r = 1 + 9 * (l.length : Int))
    (fun j c hj hc => .inl ⟨c + 9, by omega, fun r hr => Ev_eq hr (fun k => by
      have hx := h j hj
      rw [List.getElem?_eq_getElem hj] at hx
      have hx := Option.some.inj hx
      rw [← hc] at hx
      have w0 : wrap64 (c + 1) = c + 1 := wrap_id (by omega) (by omega)
      have w1 : wrap64 (c + 1 + 1) = c + 1 + 1 := wrap_id (by omega) (by omega)
      have w2 : wrap64 (c + 1 + 1 + 1) = c + 1 + 1 + 1 := wrap_id (by omega) (by omega)
      have w3 : wrap64 (c + 1 + 1 + 1 + 1) = c + 1 + 1 + 1 + 1 := wrap_id (by omega) (by omega)
      have w4 : wrap64 (c + 1 + 1 + 1 + 1 + 1) = c + 1 + 1 + 1 + 1 + 1 := wrap_id (by omega) (by omega)
      have w5 : wrap64 (c + 1 + 1 + 1 + 1 + 1 + 1) = c + 1 + 1 + 1 + 1 + 1 + 1 := wrap_id (by omega) (by omega)
      have w6 : wrap64 (c + 1 + 1 + 1 + 1 + 1 + 1 + 1) = c + 1 + 1 + 1 + 1 + 1 + 1 + 1 := wrap_id (by omega) (by omega)
      have w7 : wrap64 (c + 1 + 1 + 1 + 1 + 1 + 1 + 1 + 1) = c + 1 + 1 + 1 + 1 + 1 + 1 + 1 + 1 := wrap_id (by omega) (by omega)
      have w8 : wrap64 (c + 1 + 1 + 1 + 1 + 1 + 1 + 1 + 1 + 1) = c + 1 + 1 + 1 + 1 + 1 + 1 + 1 + 1 + 1 := wrap_id (by omega) (by omega)
      have e1 : mk_PanPane c = ⟨c, ⟨c + 1, c + 1 + 1⟩, c + 1 + 1 + 1, c + 1 + 1 + 1 + 1, ⟨c + 1 + 1 + 1 + 1 + 1, c + 1 + 1 + 1 + 1 + 1 + 1, c + 1 + 1 + 1 + 1 + 1 + 1 + 1, c + 1 + 1 + 1 + 1 + 1 + 1 + 1 + 1⟩⟩ := by simp only [mk_PanPane, Int.add_assoc] <;> rfl
      simp only [laws_heldPanPaneS.l0]
      rw [if_pos (by omega), if_pos (by omega), rd97_at l j hj, hx, e1]
      simp only [w0, w1, w2, w3, w4, w5, w6, w7, w8, if_true]
      rw [wrap_nat hj (by omega), show c + 9 = c + 1 + 1 + 1 + 1 + 1 + 1 + 1 + 1 + 1 by omega])⟩)
    (fun c hc => ⟨c, Ev_now1 (fun k => by simp only [laws_heldPanPaneS.l0]; rw [if_neg (by omega)]), hc⟩) 1 (by omega)
  obtain ⟨r, hr, rfl⟩ := h
  exact hr
/-- A pane of a key and window. -/
def isOf (key a b : Int) (x : S97) : Bool := decide (x.f0 = key) && (x.f1.f0 == a && (x.f1.f1 == b))
theorem of_step (key a b : Int) (l s : List S97) (j : Nat) (hj : j < l.length) (h2 : s = (l.take j).filter fun x => isOf key a b x) : (l.take (j + 1)).filter (fun x => isOf key a b x) = s ++ (if isOf key a b l[j] = true then [l[j]] else []) := by
  rw [List.take_succ_eq_append_getElem hj, List.filter_append, h2]
  congr 1
  cases h : isOf key a b l[j] <;> simp [h]
theorem of_spec (l : List S97) (key a b : Int) (hl : l.length ≤ 1048576) : Ev (fun k => spec_PanOf.f k l key a b) (l.filter fun x => isOf key a b x) := by
  have h := loop (fun k s i => spec_PanOf.l0 k l key s i a b) l.length (fun j s => s.length ≤ j ∧ s = (l.take j).filter fun x => isOf key a b x) (fun r => r = l.filter fun x => isOf key a b x)
    (fun j s hj hi => by
      obtain ⟨h1, h2⟩ := hi
      have ht := of_step key a b l s j hj h2
      by_cases h : isOf key a b l[j] = true
      · rw [if_pos h] at ht
        refine .inl ⟨s ++ [l[j]], ⟨by simp; omega, ht.symm⟩, fun r hr => Ev_eq hr (fun k => ?_)⟩
        simp only [spec_PanOf.l0]
        rw [if_pos (by omega), if_pos (by omega), rd97_at l j hj, wrap_nat hj (by omega)]
        unfold isOf at h
        rw [Bool.and_eq_true, decide_eq_true_eq] at h
        rw [if_pos h.1, if_pos h.2, if_pos (by omega)]
      · rw [if_neg h, List.append_nil] at ht
        refine .inl ⟨s, ⟨by omega, ht.symm⟩, fun r hr => Ev_eq hr (fun k => ?_)⟩
        simp only [spec_PanOf.l0]
        rw [if_pos (by omega), if_pos (by omega), rd97_at l j hj, wrap_nat hj (by omega)]
        unfold isOf at h
        rw [Bool.and_eq_true, decide_eq_true_eq] at h
        by_cases h3 : l[j].f0 = key
        · rw [if_pos h3, if_neg (fun e => h ⟨h3, e⟩)]
        · rw [if_neg h3])
    (fun s hs => ⟨s, Ev_now1 (fun k => by simp only [spec_PanOf.l0]; rw [if_neg (by omega)]), by rw [hs.2, List.take_length]⟩) [] ⟨by simp, by simp⟩
  obtain ⟨r, hr, rfl⟩ := h
  exact hr
theorem of_impl (l : List S97) (key a b : Int) (hl : l.length ≤ 1048576) : Ev (fun k => impl_PanOf.f k l key a b) (l.filter fun x => isOf key a b x) := by
  have h := loop (fun k s i => impl_PanOf.l0 k key s l (l.length : Int) i a b) l.length (fun j s => s.length ≤ j ∧ s = (l.take j).filter fun x => isOf key a b x) (fun r => r = l.filter fun x => isOf key a b x)
    (fun j s hj hi => by
      obtain ⟨h1, h2⟩ := hi
      have ht := of_step key a b l s j hj h2
      by_cases h : isOf key a b l[j] = true
      · rw [if_pos h] at ht
        refine .inl ⟨s ++ [l[j]], ⟨by simp; omega, ht.symm⟩, fun r hr => Ev_eq hr (fun k => ?_)⟩
        simp only [impl_PanOf.l0]
        rw [if_pos (by omega), if_pos (by omega), if_pos (by omega), rd97_at l j hj, wrap_nat hj (by omega)]
        unfold isOf at h
        rw [Bool.and_eq_true, decide_eq_true_eq] at h
        rw [if_pos h.1, if_pos h.2, if_pos (by omega)]
      · rw [if_neg h, List.append_nil] at ht
        refine .inl ⟨s, ⟨by omega, ht.symm⟩, fun r hr => Ev_eq hr (fun k => ?_)⟩
        simp only [impl_PanOf.l0]
        rw [if_pos (by omega), if_pos (by omega), if_pos (by omega), rd97_at l j hj, wrap_nat hj (by omega)]
        unfold isOf at h
        rw [Bool.and_eq_true, decide_eq_true_eq] at h
        by_cases h3 : l[j].f0 = key
        · rw [if_pos h3, if_neg (fun e => h ⟨h3, e⟩)]
        · rw [if_neg h3])
    (fun s hs => ⟨s, Ev_now1 (fun k => by simp only [impl_PanOf.l0]; rw [if_neg (by omega)]), by rw [hs.2, List.take_length]⟩) [] ⟨by simp, by simp⟩
  obtain ⟨r, hr, rfl⟩ := h
  exact hr

theorem FnExactPanOf : ∀ (l0 : List S100), l0.length ≤ maxLen → (∀ x ∈ l0, (Lit.int .i64 x.f0).wf = true ∧ (Lit.int .i64 x.f1.f0).wf = true ∧ (Lit.int .i64 x.f1.f1).wf = true ∧ (Lit.int .i64 x.f2).wf = true ∧ (Lit.int .i64 x.f3).wf = true ∧ (Lit.int .i64 x.f4.f0).wf = true ∧ (Lit.int .i64 x.f4.f1).wf = true ∧ (Lit.int .i64 x.f4.f2).wf = true ∧ (Lit.int .i64 x.f4.f3).wf = true) → ∀ (a1 : Int), (Lit.int .i64 a1).wf = true → ∀ (a2_0 : Int) (a2_1 : Int), (Lit.int .i64 a2_0).wf = true → (Lit.int .i64 a2_1).wf = true → ∃ k, laws_FnExactPanOf.f k l0 a1 a2_0 a2_1 = some true := by
  intro l hm _ key _ a b _ _
  apply Ev.rounds
  simp only [laws_FnExactPanOf.f, sz_PanPane l 1048576 (by omega) (by omega) hm, Option.bind_some, laws_toWinWin.f]
  by_cases hl : l.length ≤ 1048576
  · simp only [if_neg (show ¬ (1048576 : Int) - (l.length : Int) < 0 by omega)]
    have hml : (l.map cv_PanPane).length ≤ 1048576 := by simpa using hl
    have hfl : ((l.map cv_PanPane).filter fun x => isOf key a b x).length ≤ 1048576 := Nat.le_trans (List.length_filter_le _ _) hml
    obtain ⟨m1, hm1, hm2, hm3, hm4⟩ := mark_PanPane _ hml
    obtain ⟨m2, hg1, hg2, hg3, hg4⟩ := mark_PanPane _ hfl
    have hh : Ev (fun k => laws_heldPanPaneS.f k m2.2 1) m2.1 := by
      rw [hg2, ← hg3]
      exact held_PanPane m2.2 (by omega) (fun i hi => hg4 i (by omega))
    refine Ev.bind (to_PanPane l hl) (Ev.bind (of_spec _ key a b hml) (Ev.bind (to_PanPane l hl) (Ev.bind (of_impl _ key a b hml) (Ev.bind (eq_PanPane _ hfl) ?_))))
    simp only [if_true]
    refine Ev.bind (to_PanPane l hl) (Ev.bind (eq_PanPane _ hml) ?_)
    simp only [if_true]
    refine Ev.bind hm1 ?_
    simp only [if_neg (show ¬ m1.1 < 0 by omega)]
    refine Ev.bind (eq_PanPane _ hfl) ?_
    simp only [Bool.not_true]
    refine Ev.step (f := fun k => _) (fun k => by simp only [laws_FnExactPanOf.j0, laws_toWinWin.f, Option.bind_some, Bool.false_eq_true, if_false]; rfl) ?_
    refine Ev.bind hg1 (Ev.bind hh ?_)
    simp only [if_neg (show ¬ m2.1 < 0 by omega), if_true]
    refine Ev.bind (to_PanPane l hl) (Ev.bind (of_impl _ key a b hml) (Ev.bind (eq_PanPane _ hfl) ?_))
    simp only [if_true]
    refine Ev.bind hh ?_
    simp only [if_neg (show ¬ m2.1 < 0 by omega), if_true]
    exact Ev_const (fun k => rfl)
  · simp only [if_pos (show (1048576 : Int) - (l.length : Int) < 0 by omega)]
    exact Ev_const (fun k => rfl)

end Go.Proofs.Ytofhaglklhmilaa.Pure
