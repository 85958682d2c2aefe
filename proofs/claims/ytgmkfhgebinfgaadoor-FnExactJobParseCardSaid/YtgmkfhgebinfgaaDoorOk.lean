/- Both forms of 'a job is ok' answer alike: over the printed functions. No condition. -/
import Derived.Test.YtgmkfhgebinfgaaDoorQFnExactJobParsex2
import Derived.Test.YtgmkfhgebinfgaaDoorQFnExactJobParsex5
import Derived.Test.YtgmkfhgebinfgaaDoorAid
set_option linter.unusedVariables false
set_option linter.unusedSimpArgs false
namespace Go.Proofs.YtgmkfhgebinfgaaDoor.Num
open Go.RowKit Go.Proofs.YtgmkfhgebinfgaaDoor.PFnExactJobParse Go.Proofs.YtgmkfhgebinfgaaDoorW.PrintWords Go.Proofs.YtgmkfhgebinfgaaDoorW.PrintLast Go.Proofs.YtgmkfhgebinfgaaDoor.Aid

theorem Ev_two {α : Type} {g : Nat → Option α} {r : α} (h : ∀ k, g (k + 2) = some r) : Ev g r :=
  ⟨2, fun k hk => by
    obtain ⟨m, rfl⟩ : ∃ m, k = m + 2 := ⟨k - 2, by omega⟩
    exact h m⟩
/-- What a job must be. -/
def jobOk (a0 a1 a2 a3 a4 a5 a6 : Int) (a8 a9 : Int) : Bool :=
  decide (1 ≤ a0 ∧ a0 ≤ 3) && decide (1 ≤ a1 ∧ a1 ≤ 2) && decide (1 ≤ a2 ∧ a2 ≤ 3) && decide (1 ≤ a3 ∧ a3 ≤ 20) &&
  (if a2 = 2 then decide (1 ≤ a4 ∧ a4 ≤ a3) && decide (a3 ≤ wrap64 (4 * a4)) else decide (a4 = 0)) &&
  decide (0 ≤ a5 ∧ a5 ≤ 20) && decide (1 ≤ a6 ∧ a6 ≤ 4) && decide (-9 ≤ a8 ∧ a8 ≤ 9) && decide (1 ≤ a9 ∧ a9 ≤ 4)
theorem l1In_is (a b c : Int) : spec_l1In.f a b c = some (decide (b ≤ a ∧ a ≤ c)) := by
  unfold spec_l1In.f
  by_cases h : a ≥ b
  · have h' : b ≤ a := h
    simp [h, h']
  · have h' : ¬ b ≤ a := h
    simp [h']
theorem in_is (a b c : Int) : impl_in.f a b c = some (decide (b ≤ a ∧ a ≤ c)) := l1In_is a b c
theorem tells_is (a : Int) : impl_tells.f a = some (decide (1 ≤ a ∧ a ≤ 4)) := by
  unfold impl_tells.f
  rw [in_is]
  rfl
theorem specJobOk_is (k : Nat) (a0 a1 a2 a3 a4 a5 a6 : Int) (a7 : Bool) (a8 a9 : Int) : spec_JobOk.f (k + 2) a0 a1 a2 a3 a4 a5 a6 a7 a8 a9 = some (jobOk a0 a1 a2 a3 a4 a5 a6 a8 a9) := by
  unfold spec_JobOk.f jobOk
  simp only [l1In_is, Option.bind_some, spec_JobOk.j0, spec_JobOk.j1]
  by_cases h0 : 1 ≤ a0 ∧ a0 ≤ 3 <;> by_cases h1 : 1 ≤ a1 ∧ a1 ≤ 2 <;> by_cases h2 : 1 ≤ a2 ∧ a2 ≤ 3 <;> by_cases h3 : 1 ≤ a3 ∧ a3 ≤ 20 <;> simp only [h0, h1, h2, h3, decide_true, decide_false, if_true, Bool.not_true, Bool.not_false, Bool.false_and, Bool.and_false, Bool.true_and, and_self, Bool.false_eq_true, if_false]
  by_cases h5 : 0 ≤ a5 ∧ a5 ≤ 20 <;> by_cases h6 : 1 ≤ a6 ∧ a6 ≤ 4 <;> by_cases h8 : -9 ≤ a8 ∧ a8 ≤ 9 <;> simp only [h5, h6, h8, decide_true, decide_false, if_true, if_false, Bool.false_eq_true, Bool.and_false, Bool.false_and, Bool.and_true, Bool.true_and] <;>
  (by_cases h4 : a2 = 2
   · simp only [h4, if_true]
     by_cases h7 : 1 ≤ a4 ∧ a4 ≤ a3
     · simp only [h7, decide_true, if_true, and_self, Bool.true_and]
       by_cases h9 : a3 > wrap64 (4 * a4)
       · have h9' : ¬ a3 ≤ wrap64 (4 * a4) := by omega
         simp [h9, h9']
       · have h9' : a3 ≤ wrap64 (4 * a4) := by omega
         simp [h9, h9']
     · simp [h7]
   · by_cases h7 : a4 = 0 <;> simp [h4, h7])
theorem implJobOk_is (k : Nat) (a0 a1 a2 a3 a4 a5 a6 : Int) (a7 : Bool) (a8 a9 : Int) : impl_JobOk.f (k + 2) a0 a1 a2 a3 a4 a5 a6 a7 a8 a9 = some (jobOk a0 a1 a2 a3 a4 a5 a6 a8 a9) := by
  unfold impl_JobOk.f jobOk
  simp only [in_is, tells_is, Option.bind_some, impl_JobOk.j0, impl_JobOk.j1]
  by_cases h0 : 1 ≤ a0 ∧ a0 ≤ 3 <;> by_cases h1 : 1 ≤ a1 ∧ a1 ≤ 2 <;> by_cases h2 : 1 ≤ a2 ∧ a2 ≤ 3 <;> by_cases h3 : 1 ≤ a3 ∧ a3 ≤ 20 <;> simp only [h0, h1, h2, h3, decide_true, decide_false, if_true, Bool.not_true, Bool.not_false, Bool.false_and, Bool.and_false, Bool.true_and, and_self, Bool.false_eq_true, if_false]
  by_cases h5 : 0 ≤ a5 ∧ a5 ≤ 20 <;> by_cases h6 : 1 ≤ a6 ∧ a6 ≤ 4 <;> by_cases h8 : -9 ≤ a8 ∧ a8 ≤ 9 <;> simp only [h5, h6, h8, decide_true, decide_false, if_true, if_false, Bool.false_eq_true, Bool.and_false, Bool.false_and, Bool.and_true, Bool.true_and] <;>
  (by_cases h4 : a2 = 2
   · simp only [h4, if_true]
     by_cases h7 : 1 ≤ a4 ∧ a4 ≤ a3
     · simp only [h7, decide_true, if_true, and_self, Bool.true_and]
       by_cases h9 : a3 ≤ wrap64 (4 * a4) <;> simp [h9]
     · simp [h7]
   · by_cases h7 : a4 = 0 <;> simp [h4, h7])

theorem jobOk_says {a0 a1 a2 a3 a4 a5 a6 a8 a9 : Int} (h : jobOk a0 a1 a2 a3 a4 a5 a6 a8 a9 = true) : (1 ≤ a1 ∧ a1 ≤ 2) ∧ (1 ≤ a2 ∧ a2 ≤ 3) ∧ (1 ≤ a3 ∧ a3 ≤ 20) ∧ (a2 = 2 → 1 ≤ a4 ∧ a4 ≤ a3 ∧ a3 ≤ wrap64 (4 * a4)) := by
  unfold jobOk at h
  simp only [Bool.and_eq_true, decide_eq_true_eq] at h
  obtain ⟨⟨⟨⟨⟨⟨⟨⟨_, h1⟩, h2⟩, h3⟩, h4⟩, _⟩, _⟩, _⟩, _⟩ := h
  refine ⟨h1, h2, h3, fun e => ?_⟩
  rw [if_pos e] at h4
  simp only [Bool.and_eq_true, decide_eq_true_eq] at h4
  exact ⟨h4.1.1, h4.1.2, h4.2⟩

end Go.Proofs.YtgmkfhgebinfgaaDoor.Num
