/- The law FnExactSpcWithout over numbers and lists: the Lean function of it that was printed answers true. No condition but that each number is one of its kind. -/
import Derived.Test.YtkmckalckafloaaQFnExactSpcWithoutx5
import Derived.Test.YtkmckalckafloaaAid
set_option linter.unusedVariables false
set_option linter.unusedSimpArgs false
namespace Go.Proofs.Ytkmckalckafloaa.Pure
open Go.RowKit Go.Proofs.Ytkmckalckafloaa.PFnExactSpcWithout Go.Proofs.YtkmckalckafloaaW.PrintWords Go.Proofs.YtkmckalckafloaaW.PrintLast Go.Proofs.Ytkmckalckafloaa.Aid

theorem sz_ItmItem (l : List S99) (n : Int) (h0 : 0 ≤ n) (h1 : n ≤ 1048576) (hm : l.length ≤ maxLen) : laws_szItmItemS.f l n = some (if n - (l.length : Int) < 0 then -1 else n - (l.length : Int)) := by
  unfold maxLen at hm
  unfold laws_szItmItemS.f
  rw [wrap_id (by omega) (by omega)]
  split <;> rfl
theorem rd99_at (l : List S99) (j : Nat) (h : j < l.length) : rd_T99 l (j : Int) = l[j] := by simp [rd_T99, List.getD_eq_getElem?_getD, h]
theorem rd70_at (l : List S70) (j : Nat) (h : j < l.length) : rd_T70 l (j : Int) = l[j] := by simp [rd_T70, List.getD_eq_getElem?_getD, h]
def cv_ItmItem (x : S99) : S70 := ⟨x.f0, x.f1, x.f2, x.f3, x.f4⟩
theorem to_ItmItem (l : List S99) (hl : l.length ≤ 1048576) : Ev (fun k => laws_toItmItemS.f k l) (l.map cv_ItmItem) := by
  have h := loop (fun k s i => laws_toItmItemS.l0 k l s i) l.length (fun j s => s.length = l.length ∧ ∀ i (hi : i < l.length), i < j → s[i]? = some (cv_ItmItem l[i])) (fun r => r = l.map cv_ItmItem)
    (fun j s hj hi => by
      obtain ⟨h1, h2⟩ := hi
      refine .inl ⟨s.set j (cv_ItmItem l[j]), ⟨by simp [h1], fun i hi hij => ?_⟩, fun r hr => Ev_eq hr (fun k => ?_)⟩
      · rw [List.getElem?_set]
        by_cases e : j = i
        · subst e
          simp [h1, hi]
        · simp only [e, if_false]
          exact h2 i hi (by omega)
      · simp only [laws_toItmItemS.l0]
        rw [if_pos (by omega), if_pos (by omega), rd99_at l j hj]
        simp only [laws_toItmItem.f, Option.bind_some]
        rw [if_pos (by omega), Int.toNat_natCast, wrap_nat hj (by omega)]
        rfl)
    (fun s hs => ⟨s, Ev_now1 (fun k => by simp only [laws_toItmItemS.l0]; rw [if_neg (by omega)]), by
      obtain ⟨h1, h2⟩ := hs
      apply List.ext_getElem?
      intro i
      by_cases hi : i < l.length
      · rw [h2 i hi hi]
        simp [hi]
      · rw [List.getElem?_eq_none (by omega), List.getElem?_eq_none (by simp; omega)]⟩)
    (List.replicate l.length z70) ⟨by simp, fun i _ h => absurd h (by omega)⟩
  obtain ⟨r, hr, rfl⟩ := h
  refine Ev.congr (fun k => ?_) hr
  unfold laws_toItmItemS.f
  rw [if_pos (by omega), Int.toNat_natCast, if_pos (by omega)]
theorem eq_ItmItem (l : List S70) (hl : l.length ≤ 1048576) : Ev (fun k => laws_eqItmItemS.f k l l) true := by
  have h := loop (fun k (_ : Unit) i => laws_eqItmItemS.l0 k l l i) l.length (fun _ _ => True) (fun r => r = true)
    (fun j s hj _ => .inl ⟨(), trivial, fun r hr => Ev_eq hr (fun k => by
      simp only [laws_eqItmItemS.l0]
      rw [if_pos (by omega), if_pos (by omega), if_pos (by omega), wrap_nat hj (by omega)]
      simp [laws_eqItmItem.f])⟩)
    (fun s _ => ⟨true, Ev_now1 (fun k => by simp only [laws_eqItmItemS.l0]; rw [if_neg (by omega)]), rfl⟩) () trivial
  obtain ⟨r, hr, rfl⟩ := h
  refine Ev.congr (fun k => ?_) hr
  unfold laws_eqItmItemS.f
  rw [if_pos rfl]
/-- What the marking writes from the number c on. -/
def mk_ItmItem (c : Int) : S70 := ⟨c, c + 1, c + 2, c + 3, c + 4⟩
theorem mark_ItmItem (l : List S70) (hl : l.length ≤ 1048576) : ∃ r, Ev (fun k => laws_markItmItemS.f k l 1) r ∧ r.1 = 1 + 5 * (l.length : Int) ∧ r.2.length = l.length ∧ ∀ i, i < l.length → r.2[i]? = some (mk_ItmItem (1 + 5 * (i : Int))) := by
  have h := loop (fun k (s : Int × List S70) i => laws_markItmItemS.l0 k s.2 s.1 i) l.length (fun j s => s.1 = 1 + 5 * (j : Int) ∧ s.2.length = l.length ∧ ∀ i, i < j → s.2[i]? = some (mk_ItmItem (1 + 5 * (i : Int)))) (fun r => r.1 = 1 + 5 * (l.length : Int) ∧ r.2.length = l.length ∧ ∀ i, i < l.length → r.2[i]? = some (mk_ItmItem (1 + 5 * (i : Int))))
    (fun j s hj hi => by
      obtain ⟨c, s⟩ := s
      obtain ⟨hc, h1, h2⟩ := hi
      simp only at hc h1 h2
      refine .inl ⟨(c + 5, s.set j (mk_ItmItem c)), ⟨by simp only; omega, by simp [h1], fun i hij => ?_⟩, fun r hr => Ev_eq hr (fun k => ?_)⟩
      · simp only
        rw [List.getElem?_set]
        by_cases e : j = i
        · subst e
          simp [h1, hj, hc]
        · simp only [e, if_false]
          exact h2 i (by omega)
      · have hjs : j < s.length := by omega
        have rs : ∀ v, rd_T70 (s.set j v) (j : Int) = v := fun v => by rw [rd70_at _ j (by simpa using hjs)]; simp
        have w0 : wrap64 (c + 1) = c + 1 := wrap_id (by omega) (by omega)
        have w1 : wrap64 (c + 1 + 1) = c + 1 + 1 := wrap_id (by omega) (by omega)
        have w2 : wrap64 (c + 1 + 1 + 1) = c + 1 + 1 + 1 := wrap_id (by omega) (by omega)
        have w3 : wrap64 (c + 1 + 1 + 1 + 1) = c + 1 + 1 + 1 + 1 := wrap_id (by omega) (by omega)
        have w4 : wrap64 (c + 1 + 1 + 1 + 1 + 1) = c + 1 + 1 + 1 + 1 + 1 := wrap_id (by omega) (by omega)
        have e1 : mk_ItmItem c = ⟨c, c + 1, c + 1 + 1, c + 1 + 1 + 1, c + 1 + 1 + 1 + 1⟩ := by simp only [mk_ItmItem, Int.add_assoc] <;> rfl
        simp only [laws_markItmItemS.l0]
        rw [if_pos (by omega), if_pos (by omega)]
        simp only [Option.bind_some, Int.toNat_natCast, rs, List.set_set, w0, w1, w2, w3, w4]
        rw [wrap_nat hj (by omega), e1, show c + 5 = c + 1 + 1 + 1 + 1 + 1 by omega])
    (fun s hs => ⟨s, Ev_now1 (fun k => by obtain ⟨c, s⟩ := s; obtain ⟨hc, h1, h2⟩ := hs; simp only at h1; simp only [laws_markItmItemS.l0]; rw [if_neg (by omega)]), hs⟩) (1, l) ⟨by simp, rfl, fun i h => absurd h (by omega)⟩
  exact h
theorem markc_ItmItem (l : List S70) (hl : l.length ≤ 1048576) (c0 : Int) (hc0 : 0 ≤ c0 ∧ c0 ≤ 1000000000) : ∃ r, Ev (fun k => laws_markItmItemS.f k l c0) r ∧ r.1 = c0 + 5 * (l.length : Int) ∧ r.2.length = l.length ∧ ∀ i, i < l.length → r.2[i]? = some (mk_ItmItem (c0 + 5 * (i : Int))) := by
  have h := loop (fun k (s : Int × List S70) i => laws_markItmItemS.l0 k s.2 s.1 i) l.length (fun j s => s.1 = c0 + 5 * (j : Int) ∧ s.2.length = l.length ∧ ∀ i, i < j → s.2[i]? = some (mk_ItmItem (c0 + 5 * (i : Int)))) (fun r => r.1 = c0 + 5 * (l.length : Int) ∧ r.2.length = l.length ∧ ∀ i, i < l.length → r.2[i]? = some (mk_ItmItem (c0 + 5 * (i : Int))))
    (fun j s hj hi => by
      obtain ⟨c, s⟩ := s
      obtain ⟨hc, h1, h2⟩ := hi
      simp only at hc h1 h2
      refine .inl ⟨(c + 5, s.set j (mk_ItmItem c)), ⟨by simp only; omega, by simp [h1], fun i hij => ?_⟩, fun r hr => Ev_eq hr (fun k => ?_)⟩
      · simp only
        rw [List.getElem?_set]
        by_cases e : j = i
        · subst e
          simp [h1, hj, hc]
        · simp only [e, if_false]
          exact h2 i (by omega)
      · have hjs : j < s.length := by omega
        have rs : ∀ v, rd_T70 (s.set j v) (j : Int) = v := fun v => by rw [rd70_at _ j (by simpa using hjs)]; simp
        have w0 : wrap64 (c + 1) = c + 1 := wrap_id (by omega) (by omega)
        have w1 : wrap64 (c + 1 + 1) = c + 1 + 1 := wrap_id (by omega) (by omega)
        have w2 : wrap64 (c + 1 + 1 + 1) = c + 1 + 1 + 1 := wrap_id (by omega) (by omega)
        have w3 : wrap64 (c + 1 + 1 + 1 + 1) = c + 1 + 1 + 1 + 1 := wrap_id (by omega) (by omega)
        have w4 : wrap64 (c + 1 + 1 + 1 + 1 + 1) = c + 1 + 1 + 1 + 1 + 1 := wrap_id (by omega) (by omega)
        have e1 : mk_ItmItem c = ⟨c, c + 1, c + 1 + 1, c + 1 + 1 + 1, c + 1 + 1 + 1 + 1⟩ := by simp only [mk_ItmItem, Int.add_assoc] <;> rfl
        simp only [laws_markItmItemS.l0]
        rw [if_pos (by omega), if_pos (by omega)]
        simp only [Option.bind_some, Int.toNat_natCast, rs, List.set_set, w0, w1, w2, w3, w4]
        rw [wrap_nat hj (by omega), e1, show c + 5 = c + 1 + 1 + 1 + 1 + 1 by omega])
    (fun s hs => ⟨s, Ev_now1 (fun k => by obtain ⟨c, s⟩ := s; obtain ⟨hc, h1, h2⟩ := hs; simp only at h1; simp only [laws_markItmItemS.l0]; rw [if_neg (by omega)]), hs⟩) (c0, l) ⟨by simp, rfl, fun i h => absurd h (by omega)⟩
  exact h
theorem held_ItmItem (l : List S70) (hl : l.length ≤ 1048576) (h : ∀ i, i < l.length → l[i]? = some (mk_ItmItem (1 + 5 * (i : Int)))) : Ev (fun k => laws_heldItmItemS.f k l 1) (1 + 5 * (l.length : Int)) := by
  have h := loop (fun k c i => laws_heldItmItemS.l0 k l c i) l.length (fun j c => c = 1 + 5 * (j : Int)) (fun r => r = 1 + 5 * (l.length : Int))
    (fun j c hj hc => .inl ⟨c + 5, by omega, fun r hr => Ev_eq hr (fun k => by
      have hx := h j hj
      rw [List.getElem?_eq_getElem hj] at hx
      have hx := Option.some.inj hx
      rw [← hc] at hx
      have w0 : wrap64 (c + 1) = c + 1 := wrap_id (by omega) (by omega)
      have w1 : wrap64 (c + 1 + 1) = c + 1 + 1 := wrap_id (by omega) (by omega)
      have w2 : wrap64 (c + 1 + 1 + 1) = c + 1 + 1 + 1 := wrap_id (by omega) (by omega)
      have w3 : wrap64 (c + 1 + 1 + 1 + 1) = c + 1 + 1 + 1 + 1 := wrap_id (by omega) (by omega)
      have w4 : wrap64 (c + 1 + 1 + 1 + 1 + 1) = c + 1 + 1 + 1 + 1 + 1 := wrap_id (by omega) (by omega)
      have e1 : mk_ItmItem c = ⟨c, c + 1, c + 1 + 1, c + 1 + 1 + 1, c + 1 + 1 + 1 + 1⟩ := by simp only [mk_ItmItem, Int.add_assoc] <;> rfl
      simp only [laws_heldItmItemS.l0]
      rw [if_pos (by omega), if_pos (by omega), rd70_at l j hj, hx, e1]
      simp only [w0, w1, w2, w3, w4, if_true]
      rw [wrap_nat hj (by omega), show c + 5 = c + 1 + 1 + 1 + 1 + 1 by omega])⟩)
    (fun c hc => ⟨c, Ev_now1 (fun k => by simp only [laws_heldItmItemS.l0]; rw [if_neg (by omega)]), hc⟩) 1 (by omega)
  obtain ⟨r, hr, rfl⟩ := h
  exact hr
def tup_it (x : S70) : Int × Int × Int × Int × Int := (x.f0, x.f1, x.f2, x.f3, x.f4)
theorem tup_inj {x y : S70} (h : tup_it x = tup_it y) : x = y := by
  obtain ⟨a0, a1, a2, a3, a4⟩ := x
  obtain ⟨b0, b1, b2, b3, b4⟩ := y
  simp only [tup_it, Prod.mk.injEq] at h
  obtain ⟨rfl, rfl, rfl, rfl, rfl⟩ := h
  rfl
instance decItem : DecidableEq S70 := fun x y => decidable_of_iff (tup_it x = tup_it y) ⟨tup_inj, fun h => by rw [h]⟩
theorem eq_item (x y : S70) : ((x.f0 == y.f0 && (x.f1 == y.f1 && (x.f2 == y.f2 && (x.f3 == y.f3 && (x.f4 == y.f4))))) = true) ↔ x = y := by
  constructor
  · intro h
    apply tup_inj
    simp only [Bool.and_eq_true, beq_iff_eq] at h
    obtain ⟨h0, h1, h2, h3, h4⟩ := h
    simp only [tup_it, h0, h1, h2, h3, h4]
  · rintro rfl
    simp
/-- The first place of x is j: what is left. -/
theorem erase_at {x : S70} : ∀ (l : List S70) (j : Nat) (hj : j < l.length), l[j] = x → (∀ i (hi : i < l.length), i < j → l[i] ≠ x) → l.eraseIdx j = l.erase x
  | [], j, hj, _, _ => absurd hj (Nat.not_lt_zero _)
  | y :: l, 0, _, h, _ => by
    simp only [List.getElem_cons_zero] at h
    subst h
    simp
  | y :: l, j + 1, hj, h, hb => by
    have hy : y ≠ x := hb 0 (by simp) (by omega)
    rw [List.erase_cons_tail (by simpa using hy), List.eraseIdx_cons_succ, erase_at l j (by simpa using hj) (by simpa using h) (fun i hi hij => by
      have := hb (i + 1) (by simpa using hi) (by omega)
      simpa using this)]
theorem index_ev (l : List S70) (hl : l.length ≤ 4000000) (x : S70) : ∃ r, Ev (fun k => impl_ItmItem_80.f k l x.f0 x.f1 x.f2 x.f3 x.f4) r ∧ ((r = -1 ∧ l.erase x = l) ∨ ∃ j : Nat, r = (j : Int) ∧ j < l.length ∧ l.eraseIdx j = l.erase x) := by
  unfold impl_ItmItem_80.f
  refine loop (fun k (_ : Unit) i => impl_ItmItem_80.l0 k l (l.length : Int) i x.f0 x.f1 x.f2 x.f3 x.f4) l.length (fun j _ => ∀ i (hi : i < l.length), i < j → l[i] ≠ x) _
    (fun j s hj hi => ?_) (fun s hi => ⟨-1, Ev_now1 (fun k => by simp only [impl_ItmItem_80.l0]; rw [if_neg (by omega)]), .inl ⟨rfl, ?_⟩⟩) () (fun i hi h0 => absurd h0 (Nat.not_lt_zero _))
  · by_cases he : x = l[j]
    · refine .inr ⟨(j : Int), Ev_now1 (fun k => ?_), .inr ⟨j, rfl, hj, erase_at l j hj he.symm hi⟩⟩
      simp only [impl_ItmItem_80.l0]
      rw [if_pos (by omega), if_pos (by omega), if_pos (by omega), rd70_at l j hj, if_pos ((eq_item _ _).2 he)]
    · refine .inl ⟨(), fun i hi' hij => ?_, fun r hr => Ev_eq hr (fun k => ?_)⟩
      · by_cases e : i = j
        · subst e
          exact fun h => he h.symm
        · exact hi i hi' (by omega)
      · simp only [impl_ItmItem_80.l0]
        rw [if_pos (by omega), if_pos (by omega), if_pos (by omega), rd70_at l j hj, if_neg (fun h => he ((eq_item _ _).1 h)), wrap_nat hj (by omega)]
  · refine List.erase_of_not_mem (fun hm => ?_)
    obtain ⟨i, hi', h⟩ := List.mem_iff_getElem.1 hm
    exact hi i hi' hi' h
/-- What is left of l without g's. -/
def wo (l g : List S70) : List S70 := g.foldl List.erase l
theorem wo_len (g l : List S70) : (wo l g).length ≤ l.length := by
  unfold wo
  induction g generalizing l with
  | nil => simp
  | cons x g ih =>
    have h1 := ih (l.erase x)
    have h2 := List.length_erase_le (a := x) (l := l)
    simp only [List.foldl_cons]
    omega
theorem wo_count (g l : List S70) (a : S70) : (wo l g).count a = l.count a - g.count a := by
  unfold wo
  induction g generalizing l with
  | nil => simp
  | cons x g ih =>
    simp only [List.foldl_cons]
    rw [ih, List.count_erase, List.count_cons]
    omega
theorem impl_without (l g : List S70) (hl : l.length ≤ 4000000) (hg : g.length ≤ 4000000) : Ev (fun k => impl_SpcWithout.f k l g) (wo l g) := by
  have h := Ev_run (fun k s i => impl_SpcWithout.l0 k s g (g.length : Int) i) g (fun s x => .inr (s.erase x)) id (fun _ s => s.length ≤ l.length) (fun j s hj hi s' hs => by
      obtain rfl := Sum.inr.inj hs
      refine ⟨Nat.le_trans (List.length_erase_le ..) hi, fun r hr => ?_⟩
      obtain ⟨t, ht, h⟩ := index_ev s (by omega) g[j]
      refine Ev.step (f := fun k => _) (fun k => by simp only [impl_SpcWithout.l0]; rw [if_pos (by omega), if_pos (by omega), if_pos (by omega), rd70_at g j hj, wrap_nat hj (by omega)]) (Ev.bind ht ?_)
      rcases h with ⟨rfl, he⟩ | ⟨i, rfl, hi2, he⟩
      · simp only [if_neg (show ¬ (-1 : Int) ≥ 0 by omega)]
        rw [he] at hr
        exact hr
      · have hd : spc_delete.f s (i : Int) (wrap64 ((i : Int) + 1)) = some (s.erase g[j]) := by
          unfold spc_delete.f
          rw [if_pos (by omega), if_pos (by omega), if_pos rfl, Int.toNat_natCast, he]
        simp only [if_pos (show (i : Int) ≥ 0 by omega), hd, Option.bind_some]
        exact hr) (fun j s hj _ r h => by cases h) (fun s _ => Ev_now1 (fun k => by simp only [impl_SpcWithout.l0]; rw [if_neg (by omega)]; rfl)) l (Nat.le_refl _)
  rw [runL_fold] at h
  unfold impl_SpcWithout.f spc_clone.f
  simp only [if_pos (show l.length < 3518437208883 by omega), Option.bind_some]
  exact h
theorem spec_round (g s : List S70) (hs : s.length ≤ 4000000) (hg : g.length ≤ 4000000) (j : Nat) (hj : j < g.length) (r : List S70) (hr : Ev (fun k => spec_SpcWithout.l0 k g (s.erase g[j]) ((j : Int) + 1)) r) : Ev (fun k => spec_SpcWithout.l1 k g s (j : Int) 0) r := by
  have h := loop (fun k (_ : Unit) i => spec_SpcWithout.l1 k g s (j : Int) i) s.length (fun m _ => ∀ i (hi : i < s.length), i < m → s[i] ≠ g[j]) (fun r' => r' = r)
    (fun m _ hm hi => by
      by_cases he : s[m] = g[j]
      · have e1 : s.erase g[j] = s.take m ++ s.drop (m + 1) := by rw [← erase_at s m hm he hi, List.eraseIdx_eq_take_drop_succ]
        rw [e1] at hr
        refine .inr ⟨r, Ev_eq hr (fun k => ?_), rfl⟩
        simp only [spec_SpcWithout.l1]
        have l1 : ([] : List S70).length + (s.take m).length < 3518437208883 := by simp; omega
        have l2 : (([] : List S70) ++ s.take m).length + (s.drop (m + 1)).length < 3518437208883 := by simp; omega
        rw [if_pos (by omega), if_pos (by omega), if_pos (by omega), if_pos (by omega), rd70_at s m hm, rd70_at g j hj, if_pos ((eq_item _ _).2 he)]
        simp -implicitDefEqProofs only [Option.bind_some]
        rw [wrap_nat hm (by omega), wrap_nat hj (by omega), show ((m : Int)).toNat = m from Int.toNat_natCast m, show ((m : Int) + 1).toNat = m + 1 by omega, if_pos (by omega), if_pos l1, if_pos (by omega), if_pos (by omega), if_pos l2, List.nil_append]
      · refine .inl ⟨(), fun i hi' him => ?_, fun r' hr' => Ev_eq hr' (fun k => ?_)⟩
        · by_cases e : i = m
          · subst e
            exact he
          · exact hi i hi' (by omega)
        · simp only [spec_SpcWithout.l1]
          rw [if_pos (by omega), if_pos (by omega), if_pos (by omega), if_pos (by omega), rd70_at s m hm, rd70_at g j hj, if_neg (fun h => he ((eq_item _ _).1 h)), wrap_nat hm (by omega)])
    (fun _ hi => by
      have e1 : s.erase g[j] = s := List.erase_of_not_mem (fun hm => by
        obtain ⟨i, hi', h⟩ := List.mem_iff_getElem.1 hm
        exact hi i hi' hi' h)
      rw [e1] at hr
      refine ⟨r, Ev_eq hr (fun k => ?_), rfl⟩
      simp only [spec_SpcWithout.l1]
      rw [if_neg (by omega), wrap_nat hj (by omega)]) () (fun i hi h0 => absurd h0 (Nat.not_lt_zero _))
  obtain ⟨r', h1, rfl⟩ := h
  exact h1
theorem spec_without (l g : List S70) (hl : l.length ≤ 4000000) (hg : g.length ≤ 4000000) : Ev (fun k => spec_SpcWithout.f k l g) (wo l g) := by
  have h := Ev_run (fun k s i => spec_SpcWithout.l0 k g s i) g (fun s x => .inr (s.erase x)) id (fun _ s => s.length ≤ l.length) (fun j s hj hi s' hs => by
      obtain rfl := Sum.inr.inj hs
      refine ⟨Nat.le_trans (List.length_erase_le ..) hi, fun r hr => Ev_eq (spec_round g s (by omega) hg j hj r hr) (fun k => ?_)⟩
      simp only [spec_SpcWithout.l0]
      rw [if_pos (by omega)]) (fun j s hj _ r h => by cases h) (fun s _ => Ev_now1 (fun k => by simp only [spec_SpcWithout.l0]; rw [if_neg (by omega)]; rfl)) l (Nat.le_refl _)
  rw [runL_fold] at h
  unfold spec_SpcWithout.f
  have l1 : ([] : List S70).length + l.length < 3518437208883 := by simp; omega
  simp only [Option.bind_some, if_pos l1, List.nil_append]
  exact h

theorem FnExactSpcWithout : ∀ (l0 : List S99), l0.length ≤ maxLen → (∀ x ∈ l0, (Lit.int .i64 x.f0).wf = true ∧ (Lit.int .i64 x.f1).wf = true ∧ (Lit.int .i64 x.f2).wf = true ∧ (Lit.int .i64 x.f3).wf = true ∧ (Lit.int .i64 x.f4).wf = true) → ∀ (l1 : List S99), l1.length ≤ maxLen → (∀ x ∈ l1, (Lit.int .i64 x.f0).wf = true ∧ (Lit.int .i64 x.f1).wf = true ∧ (Lit.int .i64 x.f2).wf = true ∧ (Lit.int .i64 x.f3).wf = true ∧ (Lit.int .i64 x.f4).wf = true) → ∃ k, laws_FnExactSpcWithout.f k l0 l1 = some true := by
  intro l hm _ m hm' _
  apply Ev.rounds
  simp only [laws_FnExactSpcWithout.f, sz_ItmItem l 1048576 (by omega) (by omega) hm, Option.bind_some]
  by_cases hl : l.length ≤ 1048576
  · simp only [if_neg (show ¬ (1048576 : Int) - (l.length : Int) < 0 by omega), sz_ItmItem m (1048576 - (l.length : Int)) (by omega) (by omega) hm', Option.bind_some]
    by_cases hl' : (1048576 : Int) - (l.length : Int) - (m.length : Int) < 0
    · simp only [if_pos hl']
      exact Ev_const (fun k => rfl)
    · simp only [if_neg hl']
      have hml : (l.map cv_ItmItem).length ≤ 1048576 := by simpa using hl
      have hmm : m.length ≤ 1048576 := by omega
      have hmm2 : (m.map cv_ItmItem).length ≤ 1048576 := by simpa using hmm
      have hfl : (wo (l.map cv_ItmItem) (m.map cv_ItmItem)).length ≤ 1048576 := Nat.le_trans (wo_len _ _) hml
      obtain ⟨m1, hm1, hm2, hm3, hm4⟩ := mark_ItmItem _ hml
      obtain ⟨m2, hn1, hn2, hn3, hn4⟩ := markc_ItmItem _ hmm2 m1.1 (by omega)
      obtain ⟨m3, hg1, hg2, hg3, hg4⟩ := mark_ItmItem _ hfl
      have hh : Ev (fun k => laws_heldItmItemS.f k m3.2 1) m3.1 := by
        rw [hg2, ← hg3]
        exact held_ItmItem m3.2 (by omega) (fun i hi => hg4 i (by omega))
      have hs := spec_without (l.map cv_ItmItem) (m.map cv_ItmItem) (by omega) (by omega)
      have hi := impl_without (l.map cv_ItmItem) (m.map cv_ItmItem) (by omega) (by omega)
      refine Ev.bind (to_ItmItem l hl) (Ev.bind (to_ItmItem m hmm) (Ev.bind hs (Ev.bind (to_ItmItem l hl) (Ev.bind (to_ItmItem m hmm) (Ev.bind hi (Ev.bind (eq_ItmItem _ hfl) ?_))))))
      simp only [if_true]
      refine Ev.bind (to_ItmItem l hl) (Ev.bind (eq_ItmItem _ hml) ?_)
      simp only [if_true]
      refine Ev.bind (to_ItmItem m hmm) (Ev.bind (eq_ItmItem _ hmm2) ?_)
      simp only [if_true]
      refine Ev.bind hm1 (Ev.bind hn1 ?_)
      simp only [if_neg (show ¬ m2.1 < 0 by omega)]
      refine Ev.bind (eq_ItmItem _ hfl) ?_
      simp only [Bool.not_true]
      refine Ev.step (f := fun k => _) (fun k => by simp only [laws_FnExactSpcWithout.j0, Bool.false_eq_true, if_false]; rfl) ?_
      refine Ev.bind hg1 (Ev.bind hh ?_)
      simp only [if_neg (show ¬ m3.1 < 0 by omega), if_true]
      refine Ev.bind (to_ItmItem l hl) (Ev.bind (to_ItmItem m hmm) (Ev.bind hi (Ev.bind (eq_ItmItem _ hfl) ?_)))
      simp only [if_true]
      refine Ev.bind hh ?_
      simp only [if_neg (show ¬ m3.1 < 0 by omega), if_true]
      exact Ev_const (fun k => rfl)
  · simp only [if_pos (show (1048576 : Int) - (l.length : Int) < 0 by omega)]
    exact Ev_const (fun k => rfl)

end Go.Proofs.Ytkmckalckafloaa.Pure
