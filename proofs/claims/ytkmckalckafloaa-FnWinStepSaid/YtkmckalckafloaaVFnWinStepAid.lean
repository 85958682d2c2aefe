/- Small general lemmas over the printed functions' rounds: loops over a counter, sums that do not wrap. No condition of their own. -/
import Derived.Test.YtkmckalckafloaaVFnWinStepWords
import Derived.Test.YtkmckalckafloaaVFnWinStepLast
import Derived.RowKit
namespace Go.Proofs.Ytkmckalckafloaa.Aid
open Go.RowKit Go.Proofs.YtkmckalckafloaaW.PrintWords

theorem wrap_id {x : Int} (h0 : -9223372036854775808 ≤ x) (h1 : x ≤ 9223372036854775807) : wrap64 x = x := by unfold wrap64; omega
theorem wrap_nat {j n : Nat} (h : j < n) (hn : n ≤ 9223372036854775807) : wrap64 ((j : Int) + 1) = (j : Int) + 1 := wrap_id (by omega) (by omega)
/-- A loop over a counter, by an invariant; it may be left early. -/
theorem loop {σ R : Type} (g : Nat → σ → Int → Option R) (n : Nat) (Inv : Nat → σ → Prop) (Post : R → Prop)
    (hstep : ∀ j s, j < n → Inv j s → (∃ s', Inv (j + 1) s' ∧ ∀ r, Ev (fun k => g k s' ((j : Int) + 1)) r → Ev (fun k => g k s (j : Int)) r) ∨ (∃ r, Ev (fun k => g k s (j : Int)) r ∧ Post r))
    (hend : ∀ s, Inv n s → ∃ r, Ev (fun k => g k s (n : Int)) r ∧ Post r) (s0 : σ) (h0 : Inv 0 s0) : ∃ r, Ev (fun k => g k s0 0) r ∧ Post r := by
  have key : ∀ d j s, j + d = n → Inv j s → ∃ r, Ev (fun k => g k s (j : Int)) r ∧ Post r := by
    intro d
    induction d with
    | zero =>
      intro j s hj hi
      obtain rfl : j = n := by omega
      exact hend s hi
    | succ d ih =>
      intro j s hj hi
      rcases hstep j s (by omega) hi with ⟨s', hi', hs⟩ | h
      · obtain ⟨r, hr, hp⟩ := ih (j + 1) s' (by omega) hi'
        exact ⟨r, hs r (by rw [show ((j + 1 : Nat) : Int) = (j : Int) + 1 by omega] at hr; exact hr), hp⟩
      · exact h
  exact key n 0 s0 (by omega) h0

/-- A list walked with a state, left early or not: what a loop comes to. -/
def runL {σ α R : Type} (step : σ → α → Sum R σ) (fin : σ → R) : List α → σ → R
  | [], s => fin s
  | x :: xs, s => match step s x with
    | .inl r => r
    | .inr s' => runL step fin xs s'

/-- One round told by an equation. -/
theorem Ev_eq {α : Type} {g f : Nat → Option α} {r : α} (k : Ev f r) (h : ∀ k, g (k + 1) = f k) : Ev g r := Ev.step h k
theorem Ev_now1 {α : Type} {g : Nat → Option α} {r : α} (h : ∀ k, g (k + 1) = some r) : Ev g r := Ev.step h (Ev.now r)
end Go.Proofs.Ytkmckalckafloaa.Aid
