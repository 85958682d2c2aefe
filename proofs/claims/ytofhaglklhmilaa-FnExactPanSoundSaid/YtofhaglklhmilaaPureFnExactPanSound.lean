/- The law FnExactPanSound over numbers and lists: the Lean function of it that was printed answers true. No condition but that each number is one of its kind. -/
import Derived.Test.YtofhaglklhmilaaQFnExactPanSoundx8
import Derived.Test.YtofhaglklhmilaaAid
set_option linter.unusedVariables false
set_option linter.unusedSimpArgs false
namespace Go.Proofs.Ytofhaglklhmilaa.Pure
open Go.RowKit Go.Proofs.Ytofhaglklhmilaa.PFnExactPanSound Go.Proofs.YtofhaglklhmilaaW.PrintWords Go.Proofs.YtofhaglklhmilaaW.PrintLast Go.Proofs.Ytofhaglklhmilaa.Aid

theorem sz_PanPane (l : List S100) (n : Int) (h0 : 0 ≤ n) (h1 : n ≤ 1048576) (hm : l.length ≤ maxLen) : laws_szPanPaneS.f l n = some (if n - (l.length : Int) < 0 then -1 else n - (l.length : Int)) := by
  unfold maxLen at hm
  unfold laws_szPanPaneS.f
  rw [wrap_id (by omega) (by omega)]
  split <;> rfl
theorem rd100_at (l : List S100) (j : Nat) (h : j < l.length) : rd_T100 l (j : Int) = l[j] := by simp [rd_T100, List.getD_eq_getElem?_getD, h]
theorem rd97_at (l : List S97) (j : Nat) (h : j < l.length) : rd_T97 l (j : Int) = l[j] := by simp [rd_T97, List.getD_eq_getElem?_getD, h]
def cv_PanPane (x : S100) : S97 := ⟨x.f0, ⟨x.f1.f0, x.f1.f1⟩, x.f2, x.f3, ⟨x.f4.f0, x.f4.f1, x.f4.f2, x.f4.f3⟩⟩
theorem to_PanPane (l : List S100) (hl : l.length ≤ 1048576) : Ev (fun k => laws_toPanPaneS.f k l) (l.map cv_PanPane) := by
  have h := loop (fun k s i => laws_toPanPaneS.l0 k l s i) l.length (fun j s => s.length = l.length ∧ ∀ i (hi : i < l.length), i < j → s[i]? = some (cv_PanPane l[i])) (fun r => r = l.map cv_PanPane)
    (fun j s hj hi => by
      obtain ⟨h1, h2⟩ := hi
      refine .inl ⟨s.set j (cv_PanPane l[j]), ⟨by simp [h1], fun i hi hij => ?_⟩, fun r hr => Ev_eq hr (fun k => ?_)⟩
      · rw [List.getElem?_set]
        by_cases e : j = i
        · subst e
          simp [h1, hi]
        · simp only [e, if_false]
          exact h2 i hi (by omega)
      · simp only [laws_toPanPaneS.l0]
        rw [if_pos (by omega), if_pos (by omega), rd100_at l j hj]
        simp only [laws_toPanPane.f, laws_toWinWin.f, laws_toAggAgg.f, Option.bind_some]
        rw [if_pos (by omega), Int.toNat_natCast, wrap_nat hj (by omega)]
        rfl)
    (fun s hs => ⟨s, Ev_now1 (fun k => by simp only [laws_toPanPaneS.l0]; rw [if_neg (by omega)]), by
      obtain ⟨h1, h2⟩ := hs
      apply List.ext_getElem?
      intro i
      by_cases hi : i < l.length
      · rw [h2 i hi hi]
        simp [hi]
      · rw [List.getElem?_eq_none (by omega), List.getElem?_eq_none (by simp; omega)]⟩)
    (List.replicate l.length z97) ⟨by simp, fun i _ h => absurd h (by omega)⟩
  obtain ⟨r, hr, rfl⟩ := h
  refine Ev.congr (fun k => ?_) hr
  unfold laws_toPanPaneS.f
  rw [if_pos (by omega), Int.toNat_natCast, if_pos (by omega)]
theorem eq_PanPane (l : List S97) (hl : l.length ≤ 1048576) : Ev (fun k => laws_eqPanPaneS.f k l l) true := by
  have h := loop (fun k (_ : Unit) i => laws_eqPanPaneS.l0 k l l i) l.length (fun _ _ => True) (fun r => r = true)
    (fun j s hj _ => .inl ⟨(), trivial, fun r hr => Ev_eq hr (fun k => by
      simp only [laws_eqPanPaneS.l0]
      rw [if_pos (by omega), if_pos (by omega), if_pos (by omega), wrap_nat hj (by omega)]
      simp [laws_eqPanPane.f, laws_eqWinWin.f, laws_eqAggAgg.f])⟩)
    (fun s _ => ⟨true, Ev_now1 (fun k => by simp only [laws_eqPanPaneS.l0]; rw [if_neg (by omega)]), rfl⟩) () trivial
  obtain ⟨r, hr, rfl⟩ := h
  refine Ev.congr (fun k => ?_) hr
  unfold laws_eqPanPaneS.f
  rw [if_pos rfl]
theorem l1In_is (a b c : Int) : spec_l1In.f a b c = some (decide (b ≤ a ∧ a ≤ c)) := by
  unfold spec_l1In.f
  by_cases h : a ≥ b
  · have h' : b ≤ a := h
    simp [h, h']
  · have h' : ¬ b ≤ a := h
    simp [h']
theorem in_is (a b c : Int) : impl_in.f a b c = some (decide (b ≤ a ∧ a ≤ c)) := l1In_is a b c
theorem aggOk_eq : impl_AggOk.f = spec_AggOk.f := rfl
theorem winOk_eq : impl_WinOk.f = spec_WinOk.f := rfl
theorem aggOk_tot (a b c d : Int) : ∃ r, spec_AggOk.f a b c d = some r := by
  unfold spec_AggOk.f
  simp only [l1In_is, Option.bind_some]
  repeat' split
  all_goals exact ⟨_, rfl⟩
theorem winOk_tot (a b : Int) : ∃ r, spec_WinOk.f a b = some r := by
  unfold spec_WinOk.f
  simp only [l1In_is, Option.bind_some]
  split <;> exact ⟨_, rfl⟩
theorem panOk_both (k : Nat) (a0 a1 a2 a3 a4 a5 a6 a7 a8 : Int) : ∃ r, spec_PanOk.f (k + 1) a0 a1 a2 a3 a4 a5 a6 a7 a8 = some r ∧ impl_PanOk.f (k + 1) a0 a1 a2 a3 a4 a5 a6 a7 a8 = some r := by
  obtain ⟨w, hw⟩ := winOk_tot a1 a2
  obtain ⟨g, hg⟩ := aggOk_tot a5 a6 a7 a8
  have key : ∀ b : Bool, ∃ r, spec_PanOk.j0 (k + 1) b a0 a1 a2 a3 a4 a5 a6 a7 a8 = some r ∧ impl_PanOk.j0 (k + 1) b a0 a1 a2 a3 a4 a5 a6 a7 a8 = some r := by
    intro b
    simp only [spec_PanOk.j0, impl_PanOk.j0]
    cases b with
    | true => exact ⟨false, rfl, rfl⟩
    | false =>
      simp only [Bool.false_eq_true, if_false]
      by_cases e3 : a4 = 3
      · subst e3
        rw [if_pos rfl, if_neg (show ¬ (3 : Int) = 1 by decide), if_neg (show ¬ (3 : Int) = 2 by decide), if_pos rfl]
        by_cases e5 : a5 = 0
        · rw [if_pos e5]
          refine ⟨_, rfl, ?_⟩
          by_cases e : a3 > 0
          · simp [e, e5]
          · simp [e]
        · rw [if_neg e5]
          refine ⟨_, rfl, ?_⟩
          split <;> simp [e5]
      · rw [if_neg e3]
        by_cases e5 : a5 > 0
        · rw [if_pos e5, decide_eq_true e5]
          by_cases e1 : a4 = 1
          · subst e1
            rw [if_pos rfl, if_pos rfl]
            by_cases e : a3 = 0
            · rw [if_pos e, if_pos e]
              exact ⟨_, rfl, rfl⟩
            · rw [if_neg e, if_neg e, if_neg (show ¬ (1 : Int) = 2 by decide)]
              exact ⟨_, rfl, rfl⟩
          · rw [if_neg e1, if_neg e1]
            by_cases e2 : a4 = 2
            · rw [if_pos e2, if_pos e2]
              refine ⟨_, rfl, ?_⟩
              by_cases e : a3 > 0 <;> simp [e]
            · rw [if_neg e2, if_neg e2, if_neg e3]
              exact ⟨_, rfl, rfl⟩
        · rw [if_neg e5, decide_eq_false e5]
          refine ⟨_, rfl, ?_⟩
          split
          · split <;> rfl
          · split
            · split <;> rfl
            · rfl
  unfold spec_PanOk.f impl_PanOk.f impl_isKey.f
  rw [winOk_eq, aggOk_eq, hw, hg]
  simp only [l1In_is, in_is, Option.bind_some]
  by_cases h0 : 0 ≤ a0 ∧ a0 ≤ 3
  · rw [decide_eq_true h0]
    simp only [if_true]
    cases w with
    | false => exact key true
    | true =>
      simp only [if_true]
      by_cases h3 : 0 ≤ a3 ∧ a3 ≤ 1500
      · rw [decide_eq_true h3]
        exact key (!g)
      · rw [decide_eq_false h3]
        exact key true
  · rw [decide_eq_false h0]
    exact key true
/-- A pane of a key and window. -/
def isOf (key a b : Int) (x : S97) : Bool := decide (x.f0 = key) && (x.f1.f0 == a && (x.f1.f1 == b))
theorem of_step (key a b : Int) (l s : List S97) (j : Nat) (hj : j < l.length) (h2 : s = (l.take j).filter fun x => isOf key a b x) : (l.take (j + 1)).filter (fun x => isOf key a b x) = s ++ (if isOf key a b l[j] = true then [l[j]] else []) := by
  rw [List.take_succ_eq_append_getElem hj, List.filter_append, h2]
  congr 1
  cases h : isOf key a b l[j] <;> simp [h]
theorem of_impl (l : List S97) (key a b : Int) (hl : l.length ≤ 1048576) : Ev (fun k => impl_PanOf.f k l key a b) (l.filter fun x => isOf key a b x) := by
  have h := loop (fun k s i => impl_PanOf.l0 k key s l (l.length : Int) i a b) l.length (fun j s => s.length ≤ j ∧ s = (l.take j).filter fun x => isOf key a b x) (fun r => r = l.filter fun x => isOf key a b x)
    (fun j s hj hi => by
      obtain ⟨h1, h2⟩ := hi
      have ht := of_step key a b l s j hj h2
      by_cases h : isOf key a b l[j] = true
      · rw [if_pos h] at ht
        refine .inl ⟨s ++ [l[j]], ⟨by simp; omega, ht.symm⟩, fun r hr => Ev_eq hr (fun k => ?_)⟩
        simp only [impl_PanOf.l0]
        rw [if_pos (by omega), if_pos (by omega), if_pos (by omega), rd97_at l j hj, wrap_nat hj (by omega)]
        unfold isOf at h
        rw [Bool.and_eq_true, decide_eq_true_eq] at h
        rw [if_pos h.1, if_pos h.2, if_pos (by omega)]
      · rw [if_neg h, List.append_nil] at ht
        refine .inl ⟨s, ⟨by omega, ht.symm⟩, fun r hr => Ev_eq hr (fun k => ?_)⟩
        simp only [impl_PanOf.l0]
        rw [if_pos (by omega), if_pos (by omega), if_pos (by omega), rd97_at l j hj, wrap_nat hj (by omega)]
        unfold isOf at h
        rw [Bool.and_eq_true, decide_eq_true_eq] at h
        by_cases h3 : l[j].f0 = key
        · rw [if_pos h3, if_neg (fun e => h ⟨h3, e⟩)]
        · rw [if_neg h3])
    (fun s hs => ⟨s, Ev_now1 (fun k => by simp only [impl_PanOf.l0]; rw [if_neg (by omega)]), by rw [hs.2, List.take_length]⟩) [] ⟨by simp, by simp⟩
  obtain ⟨r, hr, rfl⟩ := h
  exact hr
theorem pan_ev (x : S97) : ∃ r, Ev (fun k => spec_PanOk.f k x.f0 x.f1.f0 x.f1.f1 x.f2 x.f3 x.f4.f0 x.f4.f1 x.f4.f2 x.f4.f3) r ∧ Ev (fun k => impl_PanOk.f k x.f0 x.f1.f0 x.f1.f1 x.f2 x.f3 x.f4.f0 x.f4.f1 x.f4.f2 x.f4.f3) r := by
  obtain ⟨r, h1, h2⟩ := panOk_both 0 x.f0 x.f1.f0 x.f1.f1 x.f2 x.f3 x.f4.f0 x.f4.f1 x.f4.f2 x.f4.f3
  exact ⟨r, Ev.of (fun k => spec_PanOk.mono _ _ _ _ _ _ _ _ _ k) h1, Ev.of (fun k => impl_PanOk.mono _ _ _ _ _ _ _ _ _ k) h2⟩
/-- A pane is ok. -/
noncomputable def pok (x : S97) : Bool := Classical.choose (pan_ev x)
theorem pok_spec (x : S97) : Ev (fun k => spec_PanOk.f k x.f0 x.f1.f0 x.f1.f1 x.f2 x.f3 x.f4.f0 x.f4.f1 x.f4.f2 x.f4.f3) (pok x) := (Classical.choose_spec (pan_ev x)).1
theorem pok_impl (x : S97) : Ev (fun k => impl_PanOk.f k x.f0 x.f1.f0 x.f1.f1 x.f2 x.f3 x.f4.f0 x.f4.f1 x.f4.f2 x.f4.f3) (pok x) := (Classical.choose_spec (pan_ev x)).2
/-- The panes of the pane's window and key ahead of the j-th. -/
def ahead (l : List S97) (x : S97) (j : Nat) : List S97 := (l.take j).filter fun y => isOf x.f0 x.f1.f0 x.f1.f1 y
noncomputable def sndAt (l : List S97) (j : Nat) : Bool := if h : j < l.length then pok l[j] && decide (l[j].f2 = ((ahead l l[j] j).length : Int)) && !(ahead l l[j] j).any pan_gone.is else true
theorem all_range (g : Nat → Int → Option Bool) (n : Nat) (p : Nat → Bool)
    (hgo : ∀ j, j < n → p j = true → ∀ r, Ev (fun k => g k ((j : Int) + 1)) r → Ev (fun k => g k (j : Int)) r)
    (hno : ∀ j, j < n → p j = false → Ev (fun k => g k (j : Int)) false) (hend : Ev (fun k => g k (n : Int)) true) : Ev (fun k => g k 0) ((List.range n).all p) := by
  have h := loop (fun k (_ : Unit) i => g k i) n (fun j _ => ∀ i, i < j → p i = true) (fun r => r = (List.range n).all p)
    (fun j s hj hi => by
      cases hp : p j with
      | true => exact .inl ⟨(), fun i h => by
          rcases Nat.lt_or_ge i j with h1 | h1
          · exact hi i h1
          · rw [show i = j by omega]; exact hp, fun r hr => hgo j hj hp r hr⟩
      | false =>
        refine .inr ⟨false, hno j hj hp, ?_⟩
        symm
        rw [Bool.eq_false_iff]
        intro h
        have := List.all_eq_true.1 h j (List.mem_range.2 hj)
        rw [hp] at this
        cases this)
    (fun s hs => ⟨true, hend, by
      symm
      exact List.all_eq_true.2 fun i hi => hs i (List.mem_range.1 hi)⟩) () (fun i h => absurd h (by omega))
  obtain ⟨r, hr, rfl⟩ := h
  exact hr
theorem impl_snd (l : List S97) (hl : l.length ≤ 1048576) : Ev (fun k => impl_PanSound.f k l) ((List.range l.length).all (sndAt l)) := by
  refine all_range (fun k i => impl_PanSound.l0 k l l (l.length : Int) i) l.length (sndAt l) (fun j hj hp r hr => ?_) (fun j hj hp => ?_) (Ev_now1 (fun k => by simp only [impl_PanSound.l0]; rw [if_neg (by omega)]))
  all_goals
    have htl : (l.take j).length ≤ 1048576 := by simp; omega
    have hof : Ev (fun k => impl_PanOf.f k (l.take j) l[j].f0 l[j].f1.f0 l[j].f1.f1) (ahead l l[j] j) := of_impl (l.take j) _ _ _ htl
    unfold sndAt at hp
    rw [dif_pos hj] at hp
    refine Ev_eq (f := fun k => (impl_PanOf.f k (l.take j) l[j].f0 l[j].f1.f0 l[j].f1.f1).bind fun t188 => ((impl_PanOk.f k l[j].f0 l[j].f1.f0 l[j].f1.f1 l[j].f2 l[j].f3 l[j].f4.f0 l[j].f4.f1 l[j].f4.f2 l[j].f4.f3).bind fun t191 => (if t191 = true then (if l[j].f2 = (t188.length : Int) then ((pan_gone.f t188).bind fun t192 => (if t192 = true then (some false) else (impl_PanSound.l0 k l l (l.length : Int) ((j : Int) + 1)))) else (some false)) else (some false)))) ?_ (fun k => by
      simp only [impl_PanSound.l0]
      rw [if_pos (by omega), if_pos (by omega), if_pos (by omega), if_pos (by omega), rd97_at l j hj, Int.toNat_natCast, wrap_nat hj (by omega)])
    refine Ev.bind hof (Ev.bind (pok_impl l[j]) ?_)
  · simp only [Bool.and_eq_true, decide_eq_true_eq, Bool.not_eq_true'] at hp
    simp only [hp.1.1, if_true, if_pos hp.1.2, pan_gone.f, hp.2, Option.bind_some, Bool.false_eq_true, if_false]
    exact hr
  · by_cases h1 : pok l[j] = true
    · by_cases h2 : l[j].f2 = ((ahead l l[j] j).length : Int)
      · have h3 : (ahead l l[j] j).any pan_gone.is = true := by
          rw [h1, decide_eq_true h2] at hp
          simpa using hp
        simp only [h1, if_true, if_pos h2, pan_gone.f, h3, Option.bind_some]
        exact Ev.now _
      · simp only [h1, if_true, if_neg h2]
        exact Ev.now _
    · simp only [if_neg h1]
      exact Ev.now _
theorem spec_snd (l : List S97) (hl : l.length ≤ 1048576) : Ev (fun k => spec_PanSound.f k l) ((List.range l.length).all (sndAt l)) := by
  have inner : ∀ (j : Nat) (hj : j < l.length) (r : Bool), Ev (fun k => if l[j].f2 = ((ahead l l[j] j).length : Int) then (if (ahead l l[j] j).any pan_gone.is = true then (some false) else (spec_PanSound.l0 k l ((j : Int) + 1))) else (some false)) r → Ev (fun k => spec_PanSound.l1 k l (j : Int) 0 false 0) r := by
    intro j hj r hr
    have h := loop (fun k (s : Int × Bool) i => spec_PanSound.l1 k l (j : Int) s.1 s.2 i) j (fun i s => s.1 = ((((l.take i).filter fun y => isOf l[j].f0 l[j].f1.f0 l[j].f1.f1 y).length : Nat) : Int) ∧ s.2 = ((l.take i).filter fun y => isOf l[j].f0 l[j].f1.f0 l[j].f1.f1 y).any pan_gone.is) (fun q => q = r)
      (fun i s hi hs => by
        obtain ⟨n, g⟩ := s
        obtain ⟨hn, hg⟩ := hs
        simp only at hn hg
        have hil : i < l.length := by omega
        have ht := of_step l[j].f0 l[j].f1.f0 l[j].f1.f1 l _ i hil rfl
        have hlen : ((l.take i).filter fun y => isOf l[j].f0 l[j].f1.f0 l[j].f1.f1 y).length ≤ i := Nat.le_trans (List.length_filter_le _ _) (by simp; omega)
        have hwn : wrap64 (n + 1) = n + 1 := wrap_id (by omega) (by omega)
        have hhead : ∀ k, spec_PanSound.l1 (k + 1) l (j : Int) n g (i : Int) = (if l[i].f0 = l[j].f0 then (if ((l[i].f1.f0) == (l[j].f1.f0) && ((l[i].f1.f1) == (l[j].f1.f1))) = true then (if g = true then (spec_PanSound.l1 k l (j : Int) (n + 1) true ((i : Int) + 1)) else (spec_PanSound.l1 k l (j : Int) (n + 1) ((l[i].f3) == 3) ((i : Int) + 1))) else (spec_PanSound.l1 k l (j : Int) n g ((i : Int) + 1))) else (spec_PanSound.l1 k l (j : Int) n g ((i : Int) + 1))) := fun k => by
          simp only [spec_PanSound.l1]
          rw [if_pos (by omega), if_pos (by omega), if_pos (by omega), if_pos (by omega), if_pos (by omega), rd97_at l j hj, rd97_at l i hil, wrap_nat hil (by omega), hwn]
        cases hq : isOf l[j].f0 l[j].f1.f0 l[j].f1.f1 l[i] with
        | true =>
          rw [hq, if_pos rfl] at ht
          refine .inl ⟨(n + 1, g || pan_gone.is l[i]), ⟨by rw [ht]; simp [hn], by rw [ht]; simp [hg]⟩, fun q hq' => Ev_eq hq' (fun k => ?_)⟩
          unfold isOf at hq
          rw [Bool.and_eq_true, decide_eq_true_eq] at hq
          rw [hhead, if_pos hq.1, if_pos hq.2]
          cases g with
          | true => rfl
          | false => rfl
        | false =>
          rw [hq, if_neg (by simp), List.append_nil] at ht
          refine .inl ⟨(n, g), ⟨by rw [ht]; exact hn, by rw [ht]; exact hg⟩, fun q hq' => Ev_eq hq' (fun k => ?_)⟩
          unfold isOf at hq
          rw [hhead]
          by_cases h1 : l[i].f0 = l[j].f0
          · rw [decide_eq_true h1, Bool.true_and] at hq
            rw [if_pos h1, if_neg (by simp only [hq]; exact Bool.false_ne_true)]
          · rw [if_neg h1])
      (fun s hs => by
        obtain ⟨n, g⟩ := s
        obtain ⟨hn, hg⟩ := hs
        simp only at hn hg
        refine ⟨r, Ev_eq hr (fun k => ?_), rfl⟩
        simp only [spec_PanSound.l1]
        rw [if_neg (by omega), if_pos (by omega), if_pos (by omega), rd97_at l j hj, wrap_nat hj (by omega), hn, hg]
        rfl) (0, false) ⟨by simp, by simp⟩
    obtain ⟨q, hq, rfl⟩ := h
    exact hq
  refine all_range (fun k i => spec_PanSound.l0 k l i) l.length (sndAt l) (fun j hj hp r hr => ?_) (fun j hj hp => ?_) (Ev_now1 (fun k => by simp only [spec_PanSound.l0]; rw [if_neg (by omega)]))
  all_goals
    unfold sndAt at hp
    rw [dif_pos hj] at hp
    refine Ev_eq (f := fun k => (spec_PanOk.f k l[j].f0 l[j].f1.f0 l[j].f1.f1 l[j].f2 l[j].f3 l[j].f4.f0 l[j].f4.f1 l[j].f4.f2 l[j].f4.f3).bind fun t155 => (if t155 = true then (spec_PanSound.l1 k l (j : Int) 0 false 0) else (some false))) ?_ (fun k => by
      simp only [spec_PanSound.l0]
      rw [if_pos (by omega), if_pos (by omega), rd97_at l j hj])
    refine Ev.bind (pok_spec l[j]) ?_
  · simp only [Bool.and_eq_true, decide_eq_true_eq, Bool.not_eq_true'] at hp
    simp only [hp.1.1, if_true]
    refine inner j hj r ?_
    simp only [if_pos hp.1.2, hp.2, Bool.false_eq_true, if_false]
    exact hr
  · by_cases h1 : pok l[j] = true
    · simp only [h1, if_true]
      refine inner j hj false ?_
      by_cases h2 : l[j].f2 = ((ahead l l[j] j).length : Int)
      · have h3 : (ahead l l[j] j).any pan_gone.is = true := by
          rw [h1, decide_eq_true h2] at hp
          simpa using hp
        simp only [if_pos h2, h3, if_true]
        exact Ev.now _
      · simp only [if_neg h2]
        exact Ev.now _
    · simp only [if_neg h1]
      exact Ev.now _

theorem FnExactPanSound : ∀ (l0 : List S100), l0.length ≤ maxLen → (∀ x ∈ l0, (Lit.int .i64 x.f0).wf = true ∧ (Lit.int .i64 x.f1.f0).wf = true ∧ (Lit.int .i64 x.f1.f1).wf = true ∧ (Lit.int .i64 x.f2).wf = true ∧ (Lit.int .i64 x.f3).wf = true ∧ (Lit.int .i64 x.f4.f0).wf = true ∧ (Lit.int .i64 x.f4.f1).wf = true ∧ (Lit.int .i64 x.f4.f2).wf = true ∧ (Lit.int .i64 x.f4.f3).wf = true) → ∃ k, laws_FnExactPanSound.f k l0 = some true := by
  intro l hm _
  apply Ev.rounds
  simp only [laws_FnExactPanSound.f, sz_PanPane l 1048576 (by omega) (by omega) hm, Option.bind_some]
  by_cases hl : l.length ≤ 1048576
  · simp only [if_neg (show ¬ (1048576 : Int) - (l.length : Int) < 0 by omega)]
    have hml : (l.map cv_PanPane).length ≤ 1048576 := by simpa using hl
    refine Ev.bind (to_PanPane l hl) (Ev.bind (spec_snd _ hml) (Ev.bind (to_PanPane l hl) (Ev.bind (impl_snd _ hml) ?_)))
    simp only [bne_self_eq_false, Bool.false_eq_true, if_false]
    refine Ev.bind (to_PanPane l hl) (Ev.bind (eq_PanPane _ hml) ?_)
    exact Ev_const (fun k => rfl)
  · simp only [if_pos (show (1048576 : Int) - (l.length : Int) < 0 by omega)]
    exact Ev_const (fun k => rfl)

end Go.Proofs.Ytofhaglklhmilaa.Pure
