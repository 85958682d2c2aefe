/- The law FnExactTabFind over numbers and lists: the Lean function of it that was printed answers true. No condition but that each number is one of its kind. -/
import Derived.Test.YtkmckalckafloaaQFnExactTabFindx4
import Derived.Test.YtkmckalckafloaaAid
set_option linter.unusedVariables false
set_option linter.unusedSimpArgs false
namespace Go.Proofs.Ytkmckalckafloaa.Pure
open Go.RowKit Go.Proofs.Ytkmckalckafloaa.PFnExactTabFind Go.Proofs.YtkmckalckafloaaW.PrintWords Go.Proofs.YtkmckalckafloaaW.PrintLast Go.Proofs.Ytkmckalckafloaa.Aid

theorem sz_TabRow (l : List S91) (n : Int) (h0 : 0 ≤ n) (h1 : n ≤ 1048576) (hm : l.length ≤ maxLen) : laws_szTabRowS.f l n = some (if n - (l.length : Int) < 0 then -1 else n - (l.length : Int)) := by
  unfold maxLen at hm
  unfold laws_szTabRowS.f
  rw [wrap_id (by omega) (by omega)]
  split <;> rfl
theorem rd91_at (l : List S91) (j : Nat) (h : j < l.length) : rd_T91 l (j : Int) = l[j] := by simp [rd_T91, List.getD_eq_getElem?_getD, h]
theorem rd87_at (l : List S87) (j : Nat) (h : j < l.length) : rd_T87 l (j : Int) = l[j] := by simp [rd_T87, List.getD_eq_getElem?_getD, h]
def cv_TabRow (x : S91) : S87 := ⟨x.f0, ⟨x.f1.f0, x.f1.f1⟩, ⟨x.f2.f0, x.f2.f1, x.f2.f2, x.f2.f3⟩⟩
theorem to_TabRow (l : List S91) (hl : l.length ≤ 1048576) : Ev (fun k => laws_toTabRowS.f k l) (l.map cv_TabRow) := by
  have h := loop (fun k s i => laws_toTabRowS.l0 k l s i) l.length (fun j s => s.length = l.length ∧ ∀ i (hi : i < l.length), i < j → s[i]? = some (cv_TabRow l[i])) (fun r => r = l.map cv_TabRow)
    (fun j s hj hi => by
      obtain ⟨h1, h2⟩ := hi
      refine .inl ⟨s.set j (cv_TabRow l[j]), ⟨by simp [h1], fun i hi hij => ?_⟩, fun r hr => Ev_eq hr (fun k => ?_)⟩
      · rw [List.getElem?_set]
        by_cases e : j = i
        · subst e
          simp [h1, hi]
        · simp only [e, if_false]
          exact h2 i hi (by omega)
      · simp only [laws_toTabRowS.l0]
        rw [if_pos (by omega), if_pos (by omega), rd91_at l j hj]
        simp only [laws_toTabRow.f, laws_toWinWin.f, laws_toAggAgg.f, Option.bind_some]
        rw [if_pos (by omega), Int.toNat_natCast, wrap_nat hj (by omega)]
        rfl)
    (fun s hs => ⟨s, Ev_now1 (fun k => by simp only [laws_toTabRowS.l0]; rw [if_neg (by omega)]), by
      obtain ⟨h1, h2⟩ := hs
      apply List.ext_getElem?
      intro i
      by_cases hi : i < l.length
      · rw [h2 i hi hi]
        simp [hi]
      · rw [List.getElem?_eq_none (by omega), List.getElem?_eq_none (by simp; omega)]⟩)
    (List.replicate l.length z87) ⟨by simp, fun i _ h => absurd h (by omega)⟩
  obtain ⟨r, hr, rfl⟩ := h
  refine Ev.congr (fun k => ?_) hr
  unfold laws_toTabRowS.f
  rw [if_pos (by omega), Int.toNat_natCast, if_pos (by omega)]
theorem eq_TabRow (l : List S87) (hl : l.length ≤ 1048576) : Ev (fun k => laws_eqTabRowS.f k l l) true := by
  have h := loop (fun k (_ : Unit) i => laws_eqTabRowS.l0 k l l i) l.length (fun _ _ => True) (fun r => r = true)
    (fun j s hj _ => .inl ⟨(), trivial, fun r hr => Ev_eq hr (fun k => by
      simp only [laws_eqTabRowS.l0]
      rw [if_pos (by omega), if_pos (by omega), if_pos (by omega), wrap_nat hj (by omega)]
      simp [laws_eqTabRow.f, laws_eqWinWin.f, laws_eqAggAgg.f])⟩)
    (fun s _ => ⟨true, Ev_now1 (fun k => by simp only [laws_eqTabRowS.l0]; rw [if_neg (by omega)]), rfl⟩) () trivial
  obtain ⟨r, hr, rfl⟩ := h
  refine Ev.congr (fun k => ?_) hr
  unfold laws_eqTabRowS.f
  rw [if_pos rfl]
/-- What is told of a row that is found, or of none. -/
def told (o : Option S87) : Int × Int × Int × Int × Bool := match o with | some x => (x.f2.f0, x.f2.f1, x.f2.f2, x.f2.f3, true) | none => (0, 0, 0, 0, false)
theorem find_impl (l : List S87) (key a b : Int) : impl_TabFind.f l key a b = some (told (l.find? (impl_TabFind.is key a b))) := by
  unfold impl_TabFind.f told
  cases l.find? (impl_TabFind.is key a b) <;> rfl
theorem find_spec (l : List S87) (key a b : Int) (hl : l.length ≤ 1048576) : Ev (fun k => spec_TabFind.f k l key a b) (told (l.find? (impl_TabFind.is key a b))) := by
  have h := loop (fun k (_ : Unit) i => spec_TabFind.l0 k l key i a b) l.length (fun j _ => (l.take j).find? (impl_TabFind.is key a b) = none) (fun r => r = told (l.find? (impl_TabFind.is key a b)))
    (fun j s hj hi => by
      by_cases h : impl_TabFind.is key a b l[j] = true
      · refine .inr ⟨_, Ev_now1 (r := told (some l[j])) (fun k => ?_), ?_⟩
        · simp only [spec_TabFind.l0]
          rw [if_pos (by omega), if_pos (by omega), rd87_at l j hj]
          unfold impl_TabFind.is at h
          rw [Bool.and_eq_true, decide_eq_true_eq] at h
          rw [if_pos h.1, if_pos h.2]
          rfl
        · have hd : l = l.take j ++ (l[j] :: l.drop (j + 1)) := by rw [← List.drop_eq_getElem_cons hj, List.take_append_drop]
          congr 1
          conv => rhs; rw [hd]
          rw [List.find?_append, hi, List.find?_cons_of_pos h]
          rfl
      · refine .inl ⟨(), ?_, fun r hr => Ev_eq hr (fun k => ?_)⟩
        · rw [List.take_succ_eq_append_getElem hj, List.find?_append, hi, List.find?_cons_of_neg h]
          rfl
        · simp only [spec_TabFind.l0]
          rw [if_pos (by omega), if_pos (by omega), rd87_at l j hj, wrap_nat hj (by omega)]
          unfold impl_TabFind.is at h
          rw [Bool.and_eq_true, decide_eq_true_eq] at h
          by_cases h3 : l[j].f0 = key
          · rw [if_pos h3, if_neg (fun e => h ⟨h3, e⟩)]
          · rw [if_neg h3])
    (fun s hs => ⟨_, Ev_now1 (r := told none) (fun k => by simp only [spec_TabFind.l0]; rw [if_neg (by omega)]; rfl), by rw [List.take_length] at hs; rw [hs]⟩) () (by simp)
  obtain ⟨r, hr, rfl⟩ := h
  exact hr

theorem FnExactTabFind : ∀ (l0 : List S91), l0.length ≤ maxLen → (∀ x ∈ l0, (Lit.int .i64 x.f0).wf = true ∧ (Lit.int .i64 x.f1.f0).wf = true ∧ (Lit.int .i64 x.f1.f1).wf = true ∧ (Lit.int .i64 x.f2.f0).wf = true ∧ (Lit.int .i64 x.f2.f1).wf = true ∧ (Lit.int .i64 x.f2.f2).wf = true ∧ (Lit.int .i64 x.f2.f3).wf = true) → ∀ (a1 : Int), (Lit.int .i64 a1).wf = true → ∀ (a2_0 : Int) (a2_1 : Int), (Lit.int .i64 a2_0).wf = true → (Lit.int .i64 a2_1).wf = true → ∃ k, laws_FnExactTabFind.f k l0 a1 a2_0 a2_1 = some true := by
  intro l hm _ key _ a b _ _
  apply Ev.rounds
  simp only [laws_FnExactTabFind.f, sz_TabRow l 1048576 (by omega) (by omega) hm, Option.bind_some, laws_toWinWin.f]
  by_cases hl : l.length ≤ 1048576
  · simp only [if_neg (show ¬ (1048576 : Int) - (l.length : Int) < 0 by omega)]
    have hml : (l.map cv_TabRow).length ≤ 1048576 := by simpa using hl
    refine Ev.bind (to_TabRow l hl) (Ev.bind (find_spec _ key a b hml) (Ev.bind (to_TabRow l hl) ?_))
    simp only [find_impl, Option.bind_some, laws_eqAggAgg.f, if_true, bne_self_eq_false]
    refine Ev.step (f := fun k => _) (fun k => by simp only [laws_FnExactTabFind.j0, Bool.false_eq_true, if_false]; rfl) ?_
    refine Ev.bind (to_TabRow l hl) (Ev.bind (eq_TabRow _ hml) ?_)
    exact Ev_const (fun k => rfl)
  · simp only [if_pos (show (1048576 : Int) - (l.length : Int) < 0 by omega)]
    exact Ev_const (fun k => rfl)

end Go.Proofs.Ytkmckalckafloaa.Pure
