/- The law FnExactLogOk over numbers and lists: the Lean function of it that was printed answers true. No condition but that each number is one of its kind. -/
import Derived.Test.YtkmckalckafloaaPFnExactLogOkx4
import Derived.Test.YtkmckalckafloaaAid
set_option linter.unusedVariables false
set_option linter.unusedSimpArgs false
namespace Go.Proofs.Ytkmckalckafloaa.Pure
open Go.RowKit Go.Proofs.Ytkmckalckafloaa.PFnExactLogOk Go.Proofs.YtkmckalckafloaaW.PrintWords Go.Proofs.YtkmckalckafloaaW.PrintLast Go.Proofs.Ytkmckalckafloaa.Aid

theorem sz_ItmItem (l : List S99) (n : Int) (h0 : 0 ≤ n) (h1 : n ≤ 1048576) (hm : l.length ≤ maxLen) : laws_szItmItemS.f l n = some (if n - (l.length : Int) < 0 then -1 else n - (l.length : Int)) := by
  unfold maxLen at hm
  unfold laws_szItmItemS.f
  rw [wrap_id (by omega) (by omega)]
  split <;> rfl
theorem rd99_at (l : List S99) (j : Nat) (h : j < l.length) : rd_T99 l (j : Int) = l[j] := by simp [rd_T99, List.getD_eq_getElem?_getD, h]
theorem rd70_at (l : List S70) (j : Nat) (h : j < l.length) : rd_T70 l (j : Int) = l[j] := by simp [rd_T70, List.getD_eq_getElem?_getD, h]
def cv_ItmItem (x : S99) : S70 := ⟨x.f0, x.f1, x.f2, x.f3, x.f4⟩
theorem to_ItmItem (l : List S99) (hl : l.length ≤ 1048576) : Ev (fun k => laws_toItmItemS.f k l) (l.map cv_ItmItem) := by
  have h := loop (fun k s i => laws_toItmItemS.l0 k l s i) l.length (fun j s => s.length = l.length ∧ ∀ i (hi : i < l.length), i < j → s[i]? = some (cv_ItmItem l[i])) (fun r => r = l.map cv_ItmItem)
    (fun j s hj hi => by
      obtain ⟨h1, h2⟩ := hi
      refine .inl ⟨s.set j (cv_ItmItem l[j]), ⟨by simp [h1], fun i hi hij => ?_⟩, fun r hr => Ev_eq hr (fun k => ?_)⟩
      · rw [List.getElem?_set]
        by_cases e : j = i
        · subst e
          simp [h1, hi]
        · simp only [e, if_false]
          exact h2 i hi (by omega)
      · simp only [laws_toItmItemS.l0]
        rw [if_pos (by omega), if_pos (by omega), rd99_at l j hj]
        simp only [laws_toItmItem.f, Option.bind_some]
        rw [if_pos (by omega), Int.toNat_natCast, wrap_nat hj (by omega)]
        rfl)
    (fun s hs => ⟨s, Ev_now1 (fun k => by simp only [laws_toItmItemS.l0]; rw [if_neg (by omega)]), by
      obtain ⟨h1, h2⟩ := hs
      apply List.ext_getElem?
      intro i
      by_cases hi : i < l.length
      · rw [h2 i hi hi]
        simp [hi]
      · rw [List.getElem?_eq_none (by omega), List.getElem?_eq_none (by simp; omega)]⟩)
    (List.replicate l.length z70) ⟨by simp, fun i _ h => absurd h (by omega)⟩
  obtain ⟨r, hr, rfl⟩ := h
  refine Ev.congr (fun k => ?_) hr
  unfold laws_toItmItemS.f
  rw [if_pos (by omega), Int.toNat_natCast, if_pos (by omega)]
theorem eq_ItmItem (l : List S70) (hl : l.length ≤ 1048576) : Ev (fun k => laws_eqItmItemS.f k l l) true := by
  have h := loop (fun k (_ : Unit) i => laws_eqItmItemS.l0 k l l i) l.length (fun _ _ => True) (fun r => r = true)
    (fun j s hj _ => .inl ⟨(), trivial, fun r hr => Ev_eq hr (fun k => by
      simp only [laws_eqItmItemS.l0]
      rw [if_pos (by omega), if_pos (by omega), if_pos (by omega), wrap_nat hj (by omega)]
      simp [laws_eqItmItem.f])⟩)
    (fun s _ => ⟨true, Ev_now1 (fun k => by simp only [laws_eqItmItemS.l0]; rw [if_neg (by omega)]), rfl⟩) () trivial
  obtain ⟨r, hr, rfl⟩ := h
  refine Ev.congr (fun k => ?_) hr
  unfold laws_eqItmItemS.f
  rw [if_pos rfl]
theorem l1In_is (a b c : Int) : spec_l1In.f a b c = some (decide (b ≤ a ∧ a ≤ c)) := by
  unfold spec_l1In.f
  by_cases h : a ≥ b
  · have h' : b ≤ a := h
    simp [h, h']
  · have h' : ¬ b ≤ a := h
    simp [h']
theorem in_is (a b c : Int) : impl_in.f a b c = some (decide (b ≤ a ∧ a ≤ c)) := l1In_is a b c
theorem itmOk_eq : impl_ItmOk.f = spec_ItmOk.f := rfl
theorem itmOk_tot (a b c d e : Int) : ∃ r, spec_ItmOk.f a b c d e = some r := by
  unfold spec_ItmOk.f
  simp only [l1In_is, Option.bind_some]
  repeat' split
  all_goals exact ⟨_, rfl⟩
/-- An item is ok. -/
def iok (x : S70) : Bool := (spec_ItmOk.f x.f0 x.f1 x.f2 x.f3 x.f4).getD false
theorem iok_is (x : S70) : spec_ItmOk.f x.f0 x.f1 x.f2 x.f3 x.f4 = some (iok x) := by
  obtain ⟨r, h⟩ := itmOk_tot x.f0 x.f1 x.f2 x.f3 x.f4
  unfold iok
  rw [h]
  rfl
/-- One round of LogOk: the greatest mark so far, or out. -/
def stp (s : Int) (x : S70) : Sum Bool Int := if iok x = true ∧ x.f0 ≠ 3 then (if x.f0 = 2 then (if x.f1 ≤ s then .inl false else .inr x.f1) else .inr s) else .inl false
def lastOk (x : S70) : Bool := (x.f0 == 2 && (x.f1 == 1000 && (x.f2 == 0 && (x.f3 == 0 && (x.f4 == 0)))))
theorem run_false (l : List S70) (s : Int) : runL stp (fun _ => false) l s = false := by
  induction l generalizing s with
  | nil => rfl
  | cons x l ih =>
    unfold runL stp
    split
    · rename_i r h
      split at h
      · split at h
        · split at h
          · exact (Sum.inl.inj h).symm
          · cases h
        · cases h
      · exact (Sum.inl.inj h).symm
    · exact ih _
theorem spec_log (l : List S70) (hl : l.length ≤ 1048576) : Ev (fun k => spec_LogOk.l0 k l 0 0) (runL stp (fun _ => true) l 0) := by
  refine Ev_run (fun k s i => spec_LogOk.l0 k l s i) l stp _ (fun _ _ => True) (fun j s hj _ s' hs => ⟨trivial, fun r hr => ?_⟩) (fun j s hj _ r hs => ?_) (fun s _ => Ev_now1 (fun k => by simp only [spec_LogOk.l0]; rw [if_neg (by omega)])) 0 trivial
  · unfold stp at hs
    split at hs
    · rename_i h
      refine Ev_eq (f := fun k => spec_LogOk.j2 k l s (j : Int) (l[j].f0 == 3)) ?_ (fun k => by
        simp only [spec_LogOk.l0]
        rw [if_pos (by omega), if_pos (by omega), rd70_at l j hj, iok_is, h.1]
        simp)
      have h3 : (l[j].f0 == 3) = false := by simpa using h.2
      rw [h3]
      refine Ev_eq hr (fun k => ?_)
      simp only [spec_LogOk.j2]
      rw [if_neg (by simp), if_pos (by omega), if_pos (by omega), rd70_at l j hj, wrap_nat hj (by omega)]
      split at hs
      · rename_i h2
        rw [if_pos h2]
        split at hs
        · cases hs
        · rename_i h4
          rw [if_neg h4, Sum.inr.inj hs]
      · rename_i h2
        rw [if_neg h2, Sum.inr.inj hs]
    · cases hs
  · unfold stp at hs
    split at hs
    · rename_i h
      refine Ev_eq (f := fun k => spec_LogOk.j2 k l s (j : Int) (l[j].f0 == 3)) ?_ (fun k => by
        simp only [spec_LogOk.l0]
        rw [if_pos (by omega), if_pos (by omega), rd70_at l j hj, iok_is, h.1]
        simp)
      have h3 : (l[j].f0 == 3) = false := by simpa using h.2
      rw [h3]
      refine Ev_now1 (fun k => ?_)
      simp only [spec_LogOk.j2]
      rw [if_neg (by simp), if_pos (by omega), if_pos (by omega), rd70_at l j hj]
      split at hs
      · rename_i h2
        rw [if_pos h2]
        split at hs
        · rename_i h4
          rw [if_pos h4, Sum.inl.inj hs]
        · cases hs
      · cases hs
    · rename_i h
      obtain rfl := Sum.inl.inj hs
      refine Ev_eq (f := fun k => spec_LogOk.j2 k l s (j : Int) true) (Ev_now1 (fun k => by simp only [spec_LogOk.j2]; rw [if_pos trivial])) (fun k => ?_)
      simp only [spec_LogOk.l0]
      rw [if_pos (by omega), if_pos (by omega), rd70_at l j hj, iok_is]
      simp only [Option.bind_some]
      by_cases h1 : iok l[j] = true
      · have h3 : l[j].f0 = 3 := Decidable.byContradiction fun h3 => h ⟨h1, h3⟩
        rw [if_pos h1, h3]
        rfl
      · rw [if_neg h1]
theorem impl_log (l : List S70) (hl : l.length ≤ 1048576) (b : Bool) (hb : ∀ k s, impl_LogOk.l0 (k + 1) l s l (l.length : Int) (l.length : Int) = some b) : Ev (fun k => impl_LogOk.l0 k l 0 l (l.length : Int) 0) (runL stp (fun _ => b) l 0) := by
  refine Ev_run (fun k s i => impl_LogOk.l0 k l s l (l.length : Int) i) l stp _ (fun _ _ => True) (fun j s hj _ s' hs => ⟨trivial, fun r hr => ?_⟩) (fun j s hj _ r hs => ?_) (fun s _ => Ev_now1 (fun k => hb k s)) 0 trivial
  · unfold stp at hs
    split at hs
    · rename_i h
      have he : ∀ k (q : Bool), (l[j].f0 = 2 → q = decide (l[j].f1 ≤ s)) → (l[j].f0 ≠ 2 → q = false) → impl_LogOk.l0 (k + 1) l s l (l.length : Int) (j : Int) = impl_LogOk.j1 k l s l (l.length : Int) (j : Int) q l[j].f0 l[j].f1 l[j].f2 l[j].f3 l[j].f4 := fun k q h2 h2' => by
        simp only [impl_LogOk.l0]
        rw [if_pos (by omega), if_pos (by omega), if_pos (by omega), rd70_at l j hj, itmOk_eq, iok_is, h.1]
        simp only [Option.bind_some, if_true]
        rw [if_neg h.2]
        by_cases e : l[j].f0 = 2
        · rw [if_pos e, h2 e]
        · rw [if_neg e, h2' e]
      split at hs
      · rename_i h2
        split at hs
        · cases hs
        · rename_i h4
          refine Ev_eq (f := fun k => _) ?_ (fun k => he k false (fun _ => by simpa using h4) (fun _ => rfl))
          refine Ev_eq hr (fun k => ?_)
          simp only [impl_LogOk.j1]
          rw [if_neg (by simp), if_pos h2, wrap_nat hj (by omega), Sum.inr.inj hs]
      · rename_i h2
        refine Ev_eq (f := fun k => _) ?_ (fun k => he k false (fun e => absurd e h2) (fun _ => rfl))
        refine Ev_eq hr (fun k => ?_)
        simp only [impl_LogOk.j1]
        rw [if_neg (by simp), if_neg h2, wrap_nat hj (by omega), Sum.inr.inj hs]
    · cases hs
  · have hout : Ev (fun k => impl_LogOk.j1 k l s l (l.length : Int) (j : Int) true l[j].f0 l[j].f1 l[j].f2 l[j].f3 l[j].f4) false := Ev_now1 (fun k => by simp only [impl_LogOk.j1]; rw [if_pos trivial])
    have hr : r = false ∧ ∀ k, impl_LogOk.l0 (k + 1) l s l (l.length : Int) (j : Int) = impl_LogOk.j1 k l s l (l.length : Int) (j : Int) true l[j].f0 l[j].f1 l[j].f2 l[j].f3 l[j].f4 := by
      unfold stp at hs
      split at hs
      · rename_i h
        split at hs
        · rename_i h2
          split at hs
          · rename_i h4
            refine ⟨(Sum.inl.inj hs).symm, fun k => ?_⟩
            simp only [impl_LogOk.l0]
            rw [if_pos (by omega), if_pos (by omega), if_pos (by omega), rd70_at l j hj, itmOk_eq, iok_is, h.1]
            simp only [Option.bind_some, if_true]
            rw [if_neg h.2, if_pos h2, decide_eq_true h4]
          · cases hs
        · cases hs
      · rename_i h
        refine ⟨(Sum.inl.inj hs).symm, fun k => ?_⟩
        simp only [impl_LogOk.l0]
        rw [if_pos (by omega), if_pos (by omega), if_pos (by omega), rd70_at l j hj, itmOk_eq, iok_is]
        simp only [Option.bind_some]
        by_cases h1 : iok l[j] = true
        · have h3 : l[j].f0 = 3 := Decidable.byContradiction fun h3 => h ⟨h1, h3⟩
          rw [if_pos h1, if_pos h3]
        · rw [if_neg h1]
    rw [hr.1]
    exact Ev_eq hout hr.2
theorem logok_both (l : List S70) (hl : l.length ≤ 1048576) : ∃ r, Ev (fun k => spec_LogOk.f k l) r ∧ Ev (fun k => impl_LogOk.f k l) r := by
  by_cases h : (1 : Int) ≤ (l.length : Int) ∧ (l.length : Int) ≤ 40
  · have hp : l.length - 1 < l.length := by omega
    have hw : wrap64 ((l.length : Int) - 1) = ((l.length - 1 : Nat) : Int) := by rw [wrap_id (by omega) (by omega)]; omega
    have hrd := rd70_at l (l.length - 1) hp
    refine ⟨runL stp (fun _ => lastOk l[l.length - 1]) l 0, ?_, ?_⟩
    · refine Ev.congr (f := fun k => spec_LogOk.j0 k l (!lastOk l[l.length - 1])) (fun k => by
        unfold spec_LogOk.f lastOk
        rw [l1In_is, decide_eq_true h]
        simp only [Option.bind_some, if_true]
        rw [hw, if_pos (by omega), if_pos (by omega), hrd]
        simp only [Bool.not_and]) ?_
      cases hb : lastOk l[l.length - 1] with
      | false =>
        rw [run_false]
        exact Ev_now1 (fun k => by simp only [spec_LogOk.j0]; rfl)
      | true => exact Ev_eq (spec_log l hl) (fun k => by simp only [spec_LogOk.j0]; rfl)
    · refine Ev.congr (f := fun k => impl_LogOk.l0 k l 0 l (l.length : Int) 0) (fun k => by
        unfold impl_LogOk.f
        rw [in_is, decide_eq_true h]
        rfl) (impl_log l hl _ (fun k s => ?_))
      simp only [impl_LogOk.l0]
      rw [if_neg (by omega), hw, if_pos (by omega), if_pos (by omega), hrd]
      rfl
  · refine ⟨false, ?_, Ev_const (fun k => by unfold impl_LogOk.f; rw [in_is, decide_eq_false h]; rfl)⟩
    refine Ev.congr (f := fun k => spec_LogOk.j0 k l true) (fun k => by unfold spec_LogOk.f; rw [l1In_is, decide_eq_false h]; rfl) (Ev_now1 (fun k => by simp only [spec_LogOk.j0]; rfl))

theorem FnExactLogOk : ∀ (l0 : List S99), l0.length ≤ maxLen → (∀ x ∈ l0, (Lit.int .i64 x.f0).wf = true ∧ (Lit.int .i64 x.f1).wf = true ∧ (Lit.int .i64 x.f2).wf = true ∧ (Lit.int .i64 x.f3).wf = true ∧ (Lit.int .i64 x.f4).wf = true) → ∃ k, laws_FnExactLogOk.f k l0 = some true := by
  intro l hm _
  apply Ev.rounds
  simp only [laws_FnExactLogOk.f, sz_ItmItem l 1048576 (by omega) (by omega) hm, Option.bind_some]
  by_cases hl : l.length ≤ 1048576
  · simp only [if_neg (show ¬ (1048576 : Int) - (l.length : Int) < 0 by omega)]
    have hml : (l.map cv_ItmItem).length ≤ 1048576 := by simpa using hl
    obtain ⟨r, h1, h2⟩ := logok_both (l.map cv_ItmItem) hml
    refine Ev.bind (to_ItmItem l hl) (Ev.bind h1 (Ev.bind (to_ItmItem l hl) (Ev.bind h2 ?_)))
    simp only [bne_self_eq_false, Bool.false_eq_true, if_false]
    refine Ev.bind (to_ItmItem l hl) (Ev.bind (eq_ItmItem _ hml) ?_)
    exact Ev_const (fun k => rfl)
  · simp only [if_pos (show (1048576 : Int) - (l.length : Int) < 0 by omega)]
    exact Ev_const (fun k => rfl)

end Go.Proofs.Ytkmckalckafloaa.Pure
