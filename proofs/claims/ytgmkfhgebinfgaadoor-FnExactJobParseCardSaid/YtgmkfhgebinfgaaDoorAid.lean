/- Small general lemmas over the printed functions' rounds: loops over a counter, sums that do not wrap. No condition of their own. -/
import Derived.Test.YtgmkfhgebinfgaaDoorWWords
import Derived.Test.YtgmkfhgebinfgaaDoorWLast
import Derived.RowKit
namespace Go.Proofs.YtgmkfhgebinfgaaDoor.Aid
open Go.RowKit Go.Proofs.YtgmkfhgebinfgaaDoorW.PrintWords

theorem wrap_id {x : Int} (h0 : -9223372036854775808 ≤ x) (h1 : x ≤ 9223372036854775807) : wrap64 x = x := by unfold wrap64; omega
theorem wrap_lo (x : Int) : -9223372036854775808 ≤ wrap64 x := by unfold wrap64; omega
theorem wrap_hi (x : Int) : wrap64 x ≤ 9223372036854775807 := by unfold wrap64; omega
theorem wrap_nat {j n : Nat} (h : j < n) (hn : n ≤ 9223372036854775807) : wrap64 ((j : Int) + 1) = (j : Int) + 1 := wrap_id (by omega) (by omega)
theorem wf_lo {x : Int} (h : (Lit.int .i64 x).wf = true) : -9223372036854775808 ≤ x ∧ x ≤ 9223372036854775807 := by
  simp only [Lit.wf, Bool.and_eq_true, decide_eq_true_eq] at h
  have a : IntKind.i64.min = -9223372036854775808 := by decide
  have b : IntKind.i64.max = 9223372036854775807 := by decide
  omega

/-- A loop over a counter, by an invariant; it may be left early. -/
theorem loop {σ R : Type} (g : Nat → σ → Int → Option R) (n : Nat) (Inv : Nat → σ → Prop) (Post : R → Prop)
    (hstep : ∀ j s, j < n → Inv j s → (∃ s', Inv (j + 1) s' ∧ ∀ r, Ev (fun k => g k s' ((j : Int) + 1)) r → Ev (fun k => g k s (j : Int)) r) ∨ (∃ r, Ev (fun k => g k s (j : Int)) r ∧ Post r))
    (hend : ∀ s, Inv n s → ∃ r, Ev (fun k => g k s (n : Int)) r ∧ Post r) (s0 : σ) (h0 : Inv 0 s0) : ∃ r, Ev (fun k => g k s0 0) r ∧ Post r := by
  have key : ∀ d j s, j + d = n → Inv j s → ∃ r, Ev (fun k => g k s (j : Int)) r ∧ Post r := by
    intro d
    induction d with
    | zero =>
      intro j s hj hi
      obtain rfl : j = n := by omega
      exact hend s hi
    | succ d ih =>
      intro j s hj hi
      rcases hstep j s (by omega) hi with ⟨s', hi', hs⟩ | h
      · obtain ⟨r, hr, hp⟩ := ih (j + 1) s' (by omega) hi'
        exact ⟨r, hs r (by rw [show ((j + 1 : Nat) : Int) = (j : Int) + 1 by omega] at hr; exact hr), hp⟩
      · exact h
  exact key n 0 s0 (by omega) h0

/-- A list walked with a state, left early or not: what a loop comes to. -/
def runL {σ α R : Type} (step : σ → α → Sum R σ) (fin : σ → R) : List α → σ → R
  | [], s => fin s
  | x :: xs, s => match step s x with
    | .inl r => r
    | .inr s' => runL step fin xs s'

theorem Ev_run {σ α R : Type} (g : Nat → σ → Int → Option R) (xs : List α) (step : σ → α → Sum R σ) (fin : σ → R) (Inv : Nat → σ → Prop)
    (hgo : ∀ j s (h : j < xs.length), Inv j s → ∀ s', step s xs[j] = .inr s' → Inv (j + 1) s' ∧ ∀ r, Ev (fun k => g k s' ((j : Int) + 1)) r → Ev (fun k => g k s (j : Int)) r)
    (hout : ∀ j s (h : j < xs.length), Inv j s → ∀ r, step s xs[j] = .inl r → Ev (fun k => g k s (j : Int)) r)
    (hend : ∀ s, Inv xs.length s → Ev (fun k => g k s (xs.length : Int)) (fin s)) (s0 : σ) (h0 : Inv 0 s0) : Ev (fun k => g k s0 0) (runL step fin xs s0) := by
  have key : ∀ d j s, j + d = xs.length → Inv j s → Ev (fun k => g k s (j : Int)) (runL step fin (xs.drop j) s) := by
    intro d
    induction d with
    | zero =>
      intro j s hj hi
      obtain rfl : j = xs.length := by omega
      rw [List.drop_length]
      exact hend s hi
    | succ d ih =>
      intro j s hj hi
      have hlt : j < xs.length := by omega
      rw [List.drop_eq_getElem_cons hlt]
      unfold runL
      cases he : step s xs[j] with
      | inl r => exact hout j s hlt hi r he
      | inr s' =>
        obtain ⟨hi', hs⟩ := hgo j s hlt hi s' he
        have hr := ih (j + 1) s' (by omega) hi'
        exact hs _ (by rw [show ((j + 1 : Nat) : Int) = (j : Int) + 1 by omega] at hr; exact hr)
  have := key xs.length 0 s0 (by omega) h0
  simpa using this

/-- No early way out: a fold. -/
theorem runL_fold {σ α R : Type} (step : σ → α → σ) (fin : σ → R) (xs : List α) (s : σ) : runL (fun s x => .inr (step s x)) fin xs s = fin (xs.foldl step s) := by
  induction xs generalizing s with
  | nil => rfl
  | cons x xs ih => simp [runL, ih]

/-- One round told by an equation. -/
theorem Ev_eq {α : Type} {g f : Nat → Option α} {r : α} (k : Ev f r) (h : ∀ k, g (k + 1) = f k) : Ev g r := Ev.step h k
theorem Ev_now1 {α : Type} {g : Nat → Option α} {r : α} (h : ∀ k, g (k + 1) = some r) : Ev g r := Ev.step h (Ev.now r)
theorem Ev_const {α : Type} {g : Nat → Option α} {r : α} (h : ∀ k, g k = some r) : Ev g r := ⟨0, fun k _ => h k⟩
theorem Ev_uniq {α : Type} {g : Nat → Option α} {r r' : α} (h : Ev g r) (h' : Ev g r') : r = r' := by
  obtain ⟨K, h⟩ := h
  obtain ⟨K', h'⟩ := h'
  have a := h (max K K') (Nat.le_max_left _ _)
  have b := h' (max K K') (Nat.le_max_right _ _)
  rw [a] at b
  exact Option.some.inj b
end Go.Proofs.YtgmkfhgebinfgaaDoor.Aid
