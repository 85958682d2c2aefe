/- The law FnExactWinOf over numbers and lists: the Lean function of it that was printed answers true. No condition but that each number is one of its kind. -/
import Derived.Test.YtkmckalckafloaaPFnExactWinOfx5
import Derived.Test.YtkmckalckafloaaAid
set_option linter.unusedVariables false
set_option linter.unusedSimpArgs false
namespace Go.Proofs.Ytkmckalckafloaa.Pure
open Go.RowKit Go.Proofs.Ytkmckalckafloaa.PFnExactWinOf Go.Proofs.YtkmckalckafloaaW.PrintWords Go.Proofs.YtkmckalckafloaaW.PrintLast Go.Proofs.Ytkmckalckafloaa.Aid

theorem rd34_at (l : List S34) (j : Nat) (h : j < l.length) : rd_T34 l (j : Int) = l[j] := by simp [rd_T34, List.getD_eq_getElem?_getD, h]
theorem eq_WinWin (l : List S34) (hl : l.length ≤ 1048576) : Ev (fun k => laws_eqWinWinS.f k l l) true := by
  have h := loop (fun k (_ : Unit) i => laws_eqWinWinS.l0 k l l i) l.length (fun _ _ => True) (fun r => r = true)
    (fun j s hj _ => .inl ⟨(), trivial, fun r hr => Ev_eq hr (fun k => by
      simp only [laws_eqWinWinS.l0]
      rw [if_pos (by omega), if_pos (by omega), if_pos (by omega), wrap_nat hj (by omega)]
      simp [laws_eqWinWin.f])⟩)
    (fun s _ => ⟨true, Ev_now1 (fun k => by simp only [laws_eqWinWinS.l0]; rw [if_neg (by omega)]), rfl⟩) () trivial
  obtain ⟨r, hr, rfl⟩ := h
  refine Ev.congr (fun k => ?_) hr
  unfold laws_eqWinWinS.f
  rw [if_pos rfl]
/-- What the marking writes from the number c on. -/
def mk_WinWin (c : Int) : S34 := ⟨c, c + 1⟩
theorem mark_WinWin (l : List S34) (hl : l.length ≤ 1048576) : ∃ r, Ev (fun k => laws_markWinWinS.f k l 1) r ∧ r.1 = 1 + 2 * (l.length : Int) ∧ r.2.length = l.length ∧ ∀ i, i < l.length → r.2[i]? = some (mk_WinWin (1 + 2 * (i : Int))) := by
  have h := loop (fun k (s : Int × List S34) i => laws_markWinWinS.l0 k s.2 s.1 i) l.length (fun j s => s.1 = 1 + 2 * (j : Int) ∧ s.2.length = l.length ∧ ∀ i, i < j → s.2[i]? = some (mk_WinWin (1 + 2 * (i : Int)))) (fun r => r.1 = 1 + 2 * (l.length : Int) ∧ r.2.length = l.length ∧ ∀ i, i < l.length → r.2[i]? = some (mk_WinWin (1 + 2 * (i : Int))))
    (fun j s hj hi => by
      obtain ⟨c, s⟩ := s
      obtain ⟨hc, h1, h2⟩ := hi
      simp only at hc h1 h2
      refine .inl ⟨(c + 2, s.set j (mk_WinWin c)), ⟨by simp only; omega, by simp [h1], fun i hij => ?_⟩, fun r hr => Ev_eq hr (fun k => ?_)⟩
      · simp only
        rw [List.getElem?_set]
        by_cases e : j = i
        · subst e
          simp [h1, hj, hc]
        · simp only [e, if_false]
          exact h2 i (by omega)
      · have hjs : j < s.length := by omega
        have rs : ∀ v, rd_T34 (s.set j v) (j : Int) = v := fun v => by rw [rd34_at _ j (by simpa using hjs)]; simp
        have w0 : wrap64 (c + 1) = c + 1 := wrap_id (by omega) (by omega)
        have w1 : wrap64 (c + 1 + 1) = c + 1 + 1 := wrap_id (by omega) (by omega)
        have e1 : mk_WinWin c = ⟨c, c + 1⟩ := by simp only [mk_WinWin, Int.add_assoc] <;> rfl
        simp only [laws_markWinWinS.l0]
        rw [if_pos (by omega), if_pos (by omega)]
        simp only [Option.bind_some, Int.toNat_natCast, rs, List.set_set, w0, w1]
        rw [wrap_nat hj (by omega), e1, show c + 2 = c + 1 + 1 by omega])
    (fun s hs => ⟨s, Ev_now1 (fun k => by obtain ⟨c, s⟩ := s; obtain ⟨hc, h1, h2⟩ := hs; simp only at h1; simp only [laws_markWinWinS.l0]; rw [if_neg (by omega)]), hs⟩) (1, l) ⟨by simp, rfl, fun i h => absurd h (by omega)⟩
  exact h
theorem held_WinWin (l : List S34) (hl : l.length ≤ 1048576) (h : ∀ i, i < l.length → l[i]? = some (mk_WinWin (1 + 2 * (i : Int)))) : Ev (fun k => laws_heldWinWinS.f k l 1) (1 + 2 * (l.length : Int)) := by
  have h := loop (fun k c i => laws_heldWinWinS.l0 k l c i) l.length (fun j c => c = 1 + 2 * (j : Int)) (fun r => r = 1 + 2 * (l.length : Int))
    (fun j c hj hc => .inl ⟨c + 2, by omega, fun r hr => Ev_eq hr (fun k => by
      have hx := h j hj
      rw [List.getElem?_eq_getElem hj] at hx
      have hx := Option.some.inj hx
      rw [← hc] at hx
      have w0 : wrap64 (c + 1) = c + 1 := wrap_id (by omega) (by omega)
      have w1 : wrap64 (c + 1 + 1) = c + 1 + 1 := wrap_id (by omega) (by omega)
      have e1 : mk_WinWin c = ⟨c, c + 1⟩ := by simp only [mk_WinWin, Int.add_assoc] <;> rfl
      simp only [laws_heldWinWinS.l0]
      rw [if_pos (by omega), if_pos (by omega), rd34_at l j hj, hx, e1]
      simp only [w0, w1, if_true]
      rw [wrap_nat hj (by omega), show c + 2 = c + 1 + 1 by omega])⟩)
    (fun c hc => ⟨c, Ev_now1 (fun k => by simp only [laws_heldWinWinS.l0]; rw [if_neg (by omega)]), hc⟩) 1 (by omega)
  obtain ⟨r, hr, rfl⟩ := h
  exact hr
theorem Ev_two {α : Type} {g : Nat → Option α} {r : α} (h : ∀ k, g (k + 2) = some r) : Ev g r :=
  ⟨2, fun k hk => by
    obtain ⟨m, rfl⟩ : ∃ m, k = m + 2 := ⟨k - 2, by omega⟩
    exact h m⟩
/-- What a job must be. -/
def jobOk (a0 a1 a2 a3 a4 a5 a6 : Int) (a8 a9 : Int) : Bool :=
  decide (1 ≤ a0 ∧ a0 ≤ 3) && decide (1 ≤ a1 ∧ a1 ≤ 2) && decide (1 ≤ a2 ∧ a2 ≤ 3) && decide (1 ≤ a3 ∧ a3 ≤ 20) &&
  (if a2 = 2 then decide (1 ≤ a4 ∧ a4 ≤ a3) && decide (a3 ≤ wrap64 (4 * a4)) else decide (a4 = 0)) &&
  decide (0 ≤ a5 ∧ a5 ≤ 20) && decide (1 ≤ a6 ∧ a6 ≤ 4) && decide (-9 ≤ a8 ∧ a8 ≤ 9) && decide (1 ≤ a9 ∧ a9 ≤ 4)
theorem l1In_is (a b c : Int) : spec_l1In.f a b c = some (decide (b ≤ a ∧ a ≤ c)) := by
  unfold spec_l1In.f
  by_cases h : a ≥ b
  · have h' : b ≤ a := h
    simp [h, h']
  · have h' : ¬ b ≤ a := h
    simp [h']
theorem in_is (a b c : Int) : impl_in.f a b c = some (decide (b ≤ a ∧ a ≤ c)) := l1In_is a b c
theorem tells_is (a : Int) : impl_tells.f a = some (decide (1 ≤ a ∧ a ≤ 4)) := by
  unfold impl_tells.f
  rw [in_is]
  rfl
theorem specJobOk_is (k : Nat) (a0 a1 a2 a3 a4 a5 a6 : Int) (a7 : Bool) (a8 a9 : Int) : spec_JobOk.f (k + 2) a0 a1 a2 a3 a4 a5 a6 a7 a8 a9 = some (jobOk a0 a1 a2 a3 a4 a5 a6 a8 a9) := by
  unfold spec_JobOk.f jobOk
  simp only [l1In_is, Option.bind_some, spec_JobOk.j0, spec_JobOk.j1]
  by_cases h0 : 1 ≤ a0 ∧ a0 ≤ 3 <;> by_cases h1 : 1 ≤ a1 ∧ a1 ≤ 2 <;> by_cases h2 : 1 ≤ a2 ∧ a2 ≤ 3 <;> by_cases h3 : 1 ≤ a3 ∧ a3 ≤ 20 <;> simp only [h0, h1, h2, h3, decide_true, decide_false, if_true, Bool.not_true, Bool.not_false, Bool.false_and, Bool.and_false, Bool.true_and, and_self, Bool.false_eq_true, if_false]
  by_cases h5 : 0 ≤ a5 ∧ a5 ≤ 20 <;> by_cases h6 : 1 ≤ a6 ∧ a6 ≤ 4 <;> by_cases h8 : -9 ≤ a8 ∧ a8 ≤ 9 <;> simp only [h5, h6, h8, decide_true, decide_false, if_true, if_false, Bool.false_eq_true, Bool.and_false, Bool.false_and, Bool.and_true, Bool.true_and] <;>
  (by_cases h4 : a2 = 2
   · simp only [h4, if_true]
     by_cases h7 : 1 ≤ a4 ∧ a4 ≤ a3
     · simp only [h7, decide_true, if_true, and_self, Bool.true_and]
       by_cases h9 : a3 > wrap64 (4 * a4)
       · have h9' : ¬ a3 ≤ wrap64 (4 * a4) := by omega
         simp [h9, h9']
       · have h9' : a3 ≤ wrap64 (4 * a4) := by omega
         simp [h9, h9']
     · simp [h7]
   · by_cases h7 : a4 = 0 <;> simp [h4, h7])
theorem implJobOk_is (k : Nat) (a0 a1 a2 a3 a4 a5 a6 : Int) (a7 : Bool) (a8 a9 : Int) : impl_JobOk.f (k + 2) a0 a1 a2 a3 a4 a5 a6 a7 a8 a9 = some (jobOk a0 a1 a2 a3 a4 a5 a6 a8 a9) := by
  unfold impl_JobOk.f jobOk
  simp only [in_is, tells_is, Option.bind_some, impl_JobOk.j0, impl_JobOk.j1]
  by_cases h0 : 1 ≤ a0 ∧ a0 ≤ 3 <;> by_cases h1 : 1 ≤ a1 ∧ a1 ≤ 2 <;> by_cases h2 : 1 ≤ a2 ∧ a2 ≤ 3 <;> by_cases h3 : 1 ≤ a3 ∧ a3 ≤ 20 <;> simp only [h0, h1, h2, h3, decide_true, decide_false, if_true, Bool.not_true, Bool.not_false, Bool.false_and, Bool.and_false, Bool.true_and, and_self, Bool.false_eq_true, if_false]
  by_cases h5 : 0 ≤ a5 ∧ a5 ≤ 20 <;> by_cases h6 : 1 ≤ a6 ∧ a6 ≤ 4 <;> by_cases h8 : -9 ≤ a8 ∧ a8 ≤ 9 <;> simp only [h5, h6, h8, decide_true, decide_false, if_true, if_false, Bool.false_eq_true, Bool.and_false, Bool.false_and, Bool.and_true, Bool.true_and] <;>
  (by_cases h4 : a2 = 2
   · simp only [h4, if_true]
     by_cases h7 : 1 ≤ a4 ∧ a4 ≤ a3
     · simp only [h7, decide_true, if_true, and_self, Bool.true_and]
       by_cases h9 : a3 ≤ wrap64 (4 * a4) <;> simp [h9]
     · simp [h7]
   · by_cases h7 : a4 = 0 <;> simp [h4, h7])

theorem jobOk_says {a0 a1 a2 a3 a4 a5 a6 a8 a9 : Int} (h : jobOk a0 a1 a2 a3 a4 a5 a6 a8 a9 = true) : (1 ≤ a1 ∧ a1 ≤ 2) ∧ (1 ≤ a2 ∧ a2 ≤ 3) ∧ (1 ≤ a3 ∧ a3 ≤ 20) ∧ (a2 = 2 → 1 ≤ a4 ∧ a4 ≤ a3 ∧ a3 ≤ wrap64 (4 * a4)) := by
  unfold jobOk at h
  simp only [Bool.and_eq_true, decide_eq_true_eq] at h
  obtain ⟨⟨⟨⟨⟨⟨⟨⟨_, h1⟩, h2⟩, h3⟩, h4⟩, _⟩, _⟩, _⟩, _⟩ := h
  refine ⟨h1, h2, h3, fun e => ?_⟩
  rw [if_pos e] at h4
  simp only [Bool.and_eq_true, decide_eq_true_eq] at h4
  exact ⟨h4.1.1, h4.1.2, h4.2⟩
/-- The windows of a time, from f on, a step apart. -/
def wins (t size step : Int) : Nat → Int → List S34 → List S34
  | 0, _, out => out
  | n + 1, f, out => if f ≤ t then wins t size step n (f + step) (if t < f + size then out ++ [⟨f, f + size⟩] else out) else out
theorem wins_len (t size step : Int) (n : Nat) (f : Int) (out : List S34) : (wins t size step n f out).length ≤ out.length + n := by
  induction n generalizing f out with
  | zero => simp [wins]
  | succ n ih =>
    unfold wins
    split
    · have := ih (f + step) (if t < f + size then out ++ [⟨f, f + size⟩] else out)
      split at this
      · rw [if_pos ‹_›]
        simp at this ⊢
        omega
      · rw [if_neg ‹_›]
        omega
    · omega
theorem impl_wins (t size step : Int) (ht : t ≤ 60) (hs : 1 ≤ size ∧ size ≤ 20) (hp : 1 ≤ step ∧ step ≤ 20) (a0 a1 a2 a4 a5 a6 : Int) (a7 : Bool) (a8 a9 : Int) (n : Nat) : ∀ (f : Int) (out : List S34), 0 ≤ f → f ≤ 80 → t - f + 1 ≤ n → out.length + n ≤ 1000 → Ev (fun k => impl_WinOf.l0 k t f step out a0 a1 a2 size a4 a5 a6 a7 a8 a9) (wins t size step n f out) := by
  induction n with
  | zero =>
    intro f out h0 h1 h2 h3
    exact Ev_now1 (fun k => by simp only [impl_WinOf.l0]; rw [if_neg (by omega), wins])
  | succ n ih =>
    intro f out h0 h1 h2 h3
    unfold wins
    by_cases h : f ≤ t
    · rw [if_pos h]
      have hw1 : wrap64 (f + size) = f + size := wrap_id (by omega) (by omega)
      have hw2 : wrap64 (f + step) = f + step := wrap_id (by omega) (by omega)
      by_cases h4 : t < f + size
      · rw [if_pos h4]
        refine Ev_eq (ih (f + step) (out ++ [⟨f, f + size⟩]) (by omega) (by omega) (by omega) (by simp; omega)) (fun k => ?_)
        simp only [impl_WinOf.l0]
        rw [if_pos h, hw1, if_pos h4, if_pos (by omega), hw2]
      · rw [if_neg h4]
        refine Ev_eq (ih (f + step) out (by omega) (by omega) (by omega) (by omega)) (fun k => ?_)
        simp only [impl_WinOf.l0]
        rw [if_pos h, hw1, if_neg h4, hw2]
    · rw [if_neg h]
      exact Ev_now1 (fun k => by simp only [impl_WinOf.l0]; rw [if_neg h])
theorem spec_wins (t size step : Int) (ht : t ≤ 60) (hs : 1 ≤ size ∧ size ≤ 20) (hp : 1 ≤ step ∧ step ≤ 20) (a0 a1 a2 a5 a6 : Int) (a7 : Bool) (a8 a9 : Int) (n : Nat) : ∀ (f : Int) (out : List S34), 0 ≤ f → f ≤ 80 → t - f + 1 ≤ n → out.length + n ≤ 1000 → Ev (fun k => spec_l4Of.l0 k t out f a0 a1 a2 size step a5 a6 a7 a8 a9) (wins t size step n f out) := by
  induction n with
  | zero =>
    intro f out h0 h1 h2 h3
    exact Ev_now1 (fun k => by simp only [spec_l4Of.l0]; rw [if_neg (by omega), wins])
  | succ n ih =>
    intro f out h0 h1 h2 h3
    unfold wins
    by_cases h : f ≤ t
    · rw [if_pos h]
      have hw1 : wrap64 (f + size) = f + size := wrap_id (by omega) (by omega)
      have hw2 : wrap64 (f + step) = f + step := wrap_id (by omega) (by omega)
      by_cases h4 : t < f + size
      · rw [if_pos h4]
        refine Ev_eq (ih (f + step) (out ++ [⟨f, f + size⟩]) (by omega) (by omega) (by omega) (by simp; omega)) (fun k => ?_)
        simp only [spec_l4Of.l0]
        rw [if_pos h, hw1, if_pos h4, if_pos (by omega), hw2]
      · rw [if_neg h4]
        refine Ev_eq (ih (f + step) out (by omega) (by omega) (by omega) (by omega)) (fun k => ?_)
        simp only [spec_l4Of.l0]
        rw [if_pos h, hw1, if_neg h4, hw2]
    · rw [if_neg h]
      exact Ev_now1 (fun k => by simp only [spec_l4Of.l0]; rw [if_neg h])
/-- The windows of a time, of a job that is ok. -/
def winsOf (kind size step t : Int) : List S34 :=
  if kind = 1 then [⟨t - t % size, t - t % size + size⟩] else if kind = 3 then [⟨t, t + size⟩] else wins t size step 61 0 []
theorem winsOf_len (kind size step t : Int) : (winsOf kind size step t).length ≤ 61 := by
  unfold winsOf
  split
  · simp
  · split
    · simp
    · have := wins_len t size step 61 0 []
      simpa using this
theorem tmod_is {t s : Int} (ht : 0 ≤ t) (hs : 1 ≤ s) : Int.tmod t s = t % s ∧ 0 ≤ t % s ∧ t % s < s ∧ t % s ≤ t :=
  ⟨Int.tmod_eq_emod_of_nonneg ht, Int.emod_nonneg _ (by omega), Int.emod_lt_of_pos _ (by omega), by
    have h1 := Int.mul_ediv_add_emod t s
    have h2 : 0 ≤ s * (t / s) := Int.mul_nonneg (by omega) (Int.ediv_nonneg ht (by omega))
    omega⟩
theorem spec_winsOf (a0 a1 a2 a3 a4 a5 a6 : Int) (a7 : Bool) (a8 a9 t : Int) (hj : jobOk a0 a1 a2 a3 a4 a5 a6 a8 a9 = true) (ht : 0 ≤ t ∧ t ≤ 60) : Ev (fun k => spec_WinOf.f k a0 a1 a2 a3 a4 a5 a6 a7 a8 a9 t) (winsOf a2 a3 a4 t) := by
  obtain ⟨h1, h2, h3, h4⟩ := jobOk_says hj
  have hjo : Ev (fun k => spec_JobOk.f k a0 a1 a2 a3 a4 a5 a6 a7 a8 a9) true := Ev_two (fun k => by rw [specJobOk_is, hj])
  unfold spec_WinOf.f
  simp only [Option.bind_some]
  refine Ev.bind hjo ?_
  simp only [if_true, l1In_is, decide_eq_true ht, Option.bind_some]
  refine Ev.bind (a := winsOf a2 a3 a4 t) ?_ (Ev_const (fun k => rfl))
  unfold spec_l4Of.f winsOf
  by_cases e1 : a2 = 1
  · obtain ⟨q1, q2, q3, q4⟩ := tmod_is (s := a3) ht.1 h3.1
    simp only [if_pos e1, if_neg (show ¬ a3 = 0 by omega), q1]
    rw [wrap_id (by omega) (by omega), wrap_id (by omega) (by omega)]
    exact Ev_const (fun k => rfl)
  · simp only [if_neg e1]
    by_cases e3 : a2 = 3
    · simp only [if_pos e3]
      rw [wrap_id (by omega) (by omega)]
      exact Ev_const (fun k => rfl)
    · simp only [if_neg e3]
      have h4' := h4 (by omega)
      exact spec_wins t a3 a4 ht.2 h3 ⟨h4'.1, by omega⟩ a0 a1 a2 a5 a6 a7 a8 a9 61 0 [] (by omega) (by omega) (by omega) (by simp)
theorem impl_winsOf (a0 a1 a2 a3 a4 a5 a6 : Int) (a7 : Bool) (a8 a9 t : Int) (hj : jobOk a0 a1 a2 a3 a4 a5 a6 a8 a9 = true) (ht : 0 ≤ t ∧ t ≤ 60) : Ev (fun k => impl_WinOf.f k a0 a1 a2 a3 a4 a5 a6 a7 a8 a9 t) (winsOf a2 a3 a4 t) := by
  obtain ⟨h1, h2, h3, h4⟩ := jobOk_says hj
  have hjo : Ev (fun k => impl_JobOk.f k a0 a1 a2 a3 a4 a5 a6 a7 a8 a9) true := Ev_two (fun k => by rw [implJobOk_is, hj])
  unfold impl_WinOf.f
  refine Ev.bind hjo ?_
  simp only [if_true, in_is, decide_eq_true ht, Option.bind_some, Bool.not_true]
  unfold winsOf
  by_cases e1 : a2 = 1
  · obtain ⟨q1, q2, q3, q4⟩ := tmod_is (s := a3) ht.1 h3.1
    rw [if_pos e1]
    refine Ev_eq (f := fun k => impl_WinOf.j1 k t (t - t % a3) a3 a0 a1 a2 a3 a4 a5 a6 a7 a8 a9) ?_ (fun k => by
      simp only [impl_WinOf.j0]
      rw [if_neg (by simp), if_pos e1, if_neg (by omega), q1, wrap_id (by omega) (by omega)])
    refine Ev_eq (f := fun k => impl_WinOf.l0 k t (t - t % a3) a3 [] a0 a1 a2 a3 a4 a5 a6 a7 a8 a9) ?_ (fun k => by simp only [impl_WinOf.j1])
    have h := impl_wins t a3 a3 ht.2 h3 h3 a0 a1 a2 a4 a5 a6 a7 a8 a9 61 (t - t % a3) [] (by omega) (by omega) (by omega) (by simp)
    have e : wins t a3 a3 61 (t - t % a3) [] = [⟨t - t % a3, t - t % a3 + a3⟩] := by
      unfold wins
      rw [if_pos (by omega), if_pos (by omega)]
      unfold wins
      rw [if_neg (by omega)]
      rfl
    rw [e] at h
    exact h
  · rw [if_neg e1]
    by_cases e3 : a2 = 3
    · rw [if_pos e3]
      refine Ev_eq (f := fun k => impl_WinOf.j1 k t t 1 a0 a1 a2 a3 a4 a5 a6 a7 a8 a9) ?_ (fun k => by
        simp only [impl_WinOf.j0]
        rw [if_neg (by simp), if_neg e1, if_neg (by omega)])
      refine Ev_eq (f := fun k => impl_WinOf.l0 k t t 1 [] a0 a1 a2 a3 a4 a5 a6 a7 a8 a9) ?_ (fun k => by simp only [impl_WinOf.j1])
      have h := impl_wins t a3 1 ht.2 h3 (by omega) a0 a1 a2 a4 a5 a6 a7 a8 a9 61 t [] (by omega) (by omega) (by omega) (by simp)
      have e : wins t a3 1 61 t [] = [⟨t, t + a3⟩] := by
        unfold wins
        rw [if_pos (by omega), if_pos (by omega)]
        unfold wins
        rw [if_neg (by omega)]
        rfl
      rw [e] at h
      exact h
    · rw [if_neg e3]
      have h4' := h4 (by omega)
      refine Ev_eq (f := fun k => impl_WinOf.j1 k t 0 a4 a0 a1 a2 a3 a4 a5 a6 a7 a8 a9) ?_ (fun k => by
        simp only [impl_WinOf.j0]
        rw [if_neg (by simp), if_neg e1, if_pos (by omega)])
      refine Ev_eq (f := fun k => impl_WinOf.l0 k t 0 a4 [] a0 a1 a2 a3 a4 a5 a6 a7 a8 a9) ?_ (fun k => by simp only [impl_WinOf.j1])
      exact impl_wins t a3 a4 ht.2 h3 ⟨h4'.1, by omega⟩ a0 a1 a2 a4 a5 a6 a7 a8 a9 61 0 [] (by omega) (by omega) (by omega) (by simp)
theorem spec_winsNo (a0 a1 a2 a3 a4 a5 a6 : Int) (a7 : Bool) (a8 a9 t : Int) (h : ¬ (jobOk a0 a1 a2 a3 a4 a5 a6 a8 a9 = true ∧ 0 ≤ t ∧ t ≤ 60)) : Ev (fun k => spec_WinOf.f k a0 a1 a2 a3 a4 a5 a6 a7 a8 a9 t) [] := by
  refine Ev_two (fun k => ?_)
  simp only [spec_WinOf.f, Option.bind_some, specJobOk_is, l1In_is]
  by_cases hj : jobOk a0 a1 a2 a3 a4 a5 a6 a8 a9 = true
  · rw [if_pos hj, decide_eq_false (fun e => h ⟨hj, e⟩)]
    rfl
  · rw [if_neg hj]
theorem impl_winsNo (a0 a1 a2 a3 a4 a5 a6 : Int) (a7 : Bool) (a8 a9 t : Int) (h : ¬ (jobOk a0 a1 a2 a3 a4 a5 a6 a8 a9 = true ∧ 0 ≤ t ∧ t ≤ 60)) : Ev (fun k => impl_WinOf.f k a0 a1 a2 a3 a4 a5 a6 a7 a8 a9 t) [] := by
  have key : ∀ k, impl_WinOf.f (k + 2) a0 a1 a2 a3 a4 a5 a6 a7 a8 a9 t = impl_WinOf.j0 (k + 2) t true a0 a1 a2 a3 a4 a5 a6 a7 a8 a9 := fun k => by
    simp only [impl_WinOf.f, implJobOk_is, Option.bind_some, in_is]
    by_cases hj : jobOk a0 a1 a2 a3 a4 a5 a6 a8 a9 = true
    · rw [if_pos hj, decide_eq_false (fun e => h ⟨hj, e⟩)]
      rfl
    · rw [if_neg hj]
  refine Ev_two (fun k => ?_)
  rw [key]
  simp only [impl_WinOf.j0]
  rfl
theorem winsOf_both (a0 a1 a2 a3 a4 a5 a6 : Int) (a7 : Bool) (a8 a9 t : Int) : ∃ l : List S34, l.length ≤ 61 ∧ Ev (fun k => spec_WinOf.f k a0 a1 a2 a3 a4 a5 a6 a7 a8 a9 t) l ∧ Ev (fun k => impl_WinOf.f k a0 a1 a2 a3 a4 a5 a6 a7 a8 a9 t) l := by
  by_cases h : jobOk a0 a1 a2 a3 a4 a5 a6 a8 a9 = true ∧ 0 ≤ t ∧ t ≤ 60
  · exact ⟨_, winsOf_len a2 a3 a4 t, spec_winsOf a0 a1 a2 a3 a4 a5 a6 a7 a8 a9 t h.1 h.2, impl_winsOf a0 a1 a2 a3 a4 a5 a6 a7 a8 a9 t h.1 h.2⟩
  · exact ⟨[], by simp, spec_winsNo a0 a1 a2 a3 a4 a5 a6 a7 a8 a9 t h, impl_winsNo a0 a1 a2 a3 a4 a5 a6 a7 a8 a9 t h⟩

theorem FnExactWinOf : ∀ (a0_0 : Int) (a0_1 : Int) (a0_2 : Int) (a0_3 : Int) (a0_4 : Int) (a0_5 : Int) (a0_6 : Int) (a0_7 : Bool) (a0_8 : Int) (a0_9 : Int), (Lit.int .i64 a0_0).wf = true → (Lit.int .i64 a0_1).wf = true → (Lit.int .i64 a0_2).wf = true → (Lit.int .i64 a0_3).wf = true → (Lit.int .i64 a0_4).wf = true → (Lit.int .i64 a0_5).wf = true → (Lit.int .i64 a0_6).wf = true → (Lit.int .i64 a0_8).wf = true → (Lit.int .i64 a0_9).wf = true → ∀ (a1 : Int), (Lit.int .i64 a1).wf = true → ∃ k, laws_FnExactWinOf.f k a0_0 a0_1 a0_2 a0_3 a0_4 a0_5 a0_6 a0_7 a0_8 a0_9 a1 = some true := by
  intro a0 a1 a2 a3 a4 a5 a6 a7 a8 a9 _ _ _ _ _ _ _ _ _ t _
  apply Ev.rounds
  obtain ⟨l, hl, h1, h2⟩ := winsOf_both a0 a1 a2 a3 a4 a5 a6 a7 a8 a9 t
  have hl' : l.length ≤ 1048576 := by omega
  obtain ⟨m2, hg1, hg2, hg3, hg4⟩ := mark_WinWin l hl'
  have hh : Ev (fun k => laws_heldWinWinS.f k m2.2 1) m2.1 := by
    rw [hg2, ← hg3]
    exact held_WinWin m2.2 (by omega) (fun i hi => hg4 i (by omega))
  simp only [laws_FnExactWinOf.f, laws_toJobJob.f, Option.bind_some]
  refine Ev.bind h1 (Ev.bind h2 (Ev.bind (eq_WinWin l hl') ?_))
  simp only [if_true]
  refine Ev.bind hg1 (Ev.bind hh ?_)
  simp only [if_neg (show ¬ m2.1 < 0 by omega), if_true]
  refine Ev.bind h2 (Ev.bind (eq_WinWin l hl') ?_)
  simp only [if_true]
  refine Ev.bind hh ?_
  simp only [if_neg (show ¬ m2.1 < 0 by omega), if_true]
  exact Ev_const (fun k => rfl)

end Go.Proofs.Ytkmckalckafloaa.Pure
