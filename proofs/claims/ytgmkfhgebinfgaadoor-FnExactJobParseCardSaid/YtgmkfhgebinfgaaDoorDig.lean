/- Decimals as lists of bytes: what strconv reads and writes, and what the reference reads. Plain facts on lists and numbers. -/
import Derived.Lib.AtoiAll
import Derived.Lib.AtoiAllCases
import Derived.Lib.ItoaNum
import Derived.Lib.ItoaMem
import Derived.Lib.Strings
set_option linter.unusedVariables false
set_option linter.unusedSimpArgs false
namespace Go.Proofs.YtgmkfhgebinfgaaDoor.Dig
open Go.Lib

/-- A decimal digit. -/
def isDig (c : UInt8) : Bool := decide (48 ≤ c.toNat) && decide (c.toNat ≤ 57)
/-- What digits say. -/
def val (acc : Nat) (l : List UInt8) : Nat := l.foldl (fun a c => a * 10 + (c.toNat - 48)) acc
theorem val_nil (acc : Nat) : val acc [] = acc := by
  unfold val
  rw [List.foldl_nil]
theorem val_cons (acc : Nat) (c : UInt8) (r : List UInt8) : val acc (c :: r) = val (acc * 10 + (c.toNat - 48)) r := by
  unfold val
  rw [List.foldl_cons]
theorem isDig_iff (c : UInt8) : isDig c = true ↔ 48 ≤ c.toNat ∧ c.toNat ≤ 57 := by simp [isDig]
theorem val_snoc (l : List UInt8) (c : UInt8) (acc : Nat) : val acc (l ++ [c]) = val acc l * 10 + (c.toNat - 48) := by
  unfold val
  rw [List.foldl_append, List.foldl_cons, List.foldl_nil]
theorem val_ge (l : List UInt8) (acc : Nat) : acc ≤ val acc l := by
  induction l generalizing acc with
  | nil =>
    rw [val_nil]
    exact Nat.le_refl _
  | cons x l ih =>
    have := ih (acc * 10 + (x.toNat - 48))
    rw [val_cons]
    omega
theorem val_lt (l : List UInt8) (h : l.all isDig = true) (acc : Nat) : val acc l < (acc + 1) * 10 ^ l.length := by
  induction l generalizing acc with
  | nil =>
    rw [val_nil, List.length_nil, Nat.pow_zero]
    omega
  | cons x l ih =>
    rw [List.all_cons, Bool.and_eq_true] at h
    have hx := (isDig_iff x).1 h.1
    have h1 := ih h.2 (acc * 10 + (x.toNat - 48))
    rw [val_cons]
    refine Nat.lt_of_lt_of_le h1 ?_
    rw [List.length_cons, Nat.pow_succ, Nat.mul_comm (10 ^ l.length) 10, ← Nat.mul_assoc]
    exact Nat.mul_le_mul_right _ (by omega)
theorem parse_nil (acc : Nat) : parseUint10 acc [] = .ok acc := rfl
theorem parse_val (l : List UInt8) (h : l.all isDig = true) (N : Nat) (hN : N ≤ 1844674407370955161) (acc : Nat) (hb : (acc + 1) * 10 ^ l.length ≤ N) : parseUint10 acc l = .ok (val acc l) := by
  induction l generalizing acc with
  | nil =>
    rw [val_nil]
    exact parse_nil acc
  | cons x l ih =>
    rw [List.all_cons, Bool.and_eq_true] at h
    have hx := (isDig_iff x).1 h.1
    rw [List.length_cons, Nat.pow_succ, Nat.mul_comm (10 ^ l.length) 10, ← Nat.mul_assoc] at hb
    have hp : 1 ≤ 10 ^ l.length := Nat.one_le_pow _ _ (by decide)
    have h1 : (acc + 1) * 10 ≤ N := Nat.le_trans (Nat.le_mul_of_pos_right _ hp) hb
    have h2 : (acc * 10 + (x.toNat - 48) + 1) * 10 ^ l.length ≤ N := Nat.le_trans (Nat.mul_le_mul_right _ (by omega)) hb
    rw [parseUint10, if_pos hx, if_neg (by omega), if_neg (by omega), val_cons]
    exact ih h.2 _ h2
theorem ofNat_dig (c : UInt8) (h : 48 ≤ c.toNat ∧ c.toNat ≤ 57) : UInt8.ofNat (48 + (c.toNat - 48)) = c := by
  rw [show 48 + (c.toNat - 48) = c.toNat by omega]
  simp
/-- No nought ahead. -/
def lean_ (l : List UInt8) : Prop := l ≠ [] ∧ (l.length = 1 ∨ l.head? ≠ some 48)
theorem head_val (c : UInt8) (r : List UInt8) (h : isDig c = true) (h0 : c ≠ 48) (acc : Nat) : 1 ≤ val acc (c :: r) := by
  have hc := (isDig_iff c).1 h
  have : c.toNat ≠ 48 := fun e => h0 (by rw [← UInt8.toNat_inj]; exact e)
  have h1 := val_ge r (acc * 10 + (c.toNat - 48))
  rw [val_cons]
  omega
theorem dec_val : ∀ (n : Nat) (l : List UInt8), l.length = n → l.all isDig = true → lean_ l → decDigits (val 0 l) = l := by
  intro n
  induction n with
  | zero =>
    intro l hn _ hl
    exact absurd (List.length_eq_zero_iff.1 hn) hl.1
  | succ n ih =>
    intro l hn hd hl
    rcases List.eq_nil_or_concat l with e | ⟨t, c, rfl⟩
    · exact absurd e hl.1
    · simp only [List.concat_eq_append] at hn hd hl ⊢
      rw [List.all_append, Bool.and_eq_true] at hd
      have hc := (isDig_iff c).1 (by simpa using hd.2)
      rw [val_snoc]
      by_cases ht : t = []
      · subst ht
        rw [decDigits, dif_pos (by rw [val_nil]; omega), val_nil]
        simp only [Nat.zero_mul, Nat.zero_add, List.nil_append, ofNat_dig c hc]
      · have hh : (t ++ [c]).head? ≠ some 48 := by
          rcases hl.2 with h1 | h1
          · have : t.length = 0 := by simpa using h1
            exact absurd (List.length_eq_zero_iff.1 this) ht
          · exact h1
        obtain ⟨x, r, rfl⟩ : ∃ x r, t = x :: r := by
          cases t with
          | nil => exact absurd rfl ht
          | cons x r => exact ⟨x, r, rfl⟩
        have hx0 : x ≠ 48 := by simpa using hh
        have hxd : isDig x = true := by
          have := hd.1
          rw [List.all_cons, Bool.and_eq_true] at this
          exact this.1
        have hv := head_val x r hxd hx0 0
        have hi := ih (x :: r) (by simpa using hn) hd.1 ⟨by simp, .inr (by simpa using hx0)⟩
        rw [decDigits, dif_neg (by omega), show (val 0 (x :: r) * 10 + (c.toNat - 48)) / 10 = val 0 (x :: r) by omega, show (val 0 (x :: r) * 10 + (c.toNat - 48)) % 10 = c.toNat - 48 by omega, hi, ofNat_dig c hc]
theorem toNat_dig (d : Nat) (h : d < 10) : (UInt8.ofNat (48 + d)).toNat = 48 + d := by
  rw [UInt8.toNat_ofNat']
  omega
theorem dec_facts (u : Nat) : (decDigits u).all isDig = true ∧ val 0 (decDigits u) = u ∧ decDigits u ≠ [] ∧ (1 ≤ u → (decDigits u).head? ≠ some 48) := by
  induction u using Nat.strongRecOn with
  | _ u ih =>
    by_cases h : u < 10
    · rw [decDigits, dif_pos h]
      have e := toNat_dig u h
      refine ⟨?_, ?_, by simp, fun h1 => ?_⟩
      · simp [isDig, e]
        omega
      · rw [val_cons, val_nil, e]
        omega
      · simp only [List.head?_cons, ne_eq, Option.some.injEq]
        intro e2
        rw [e2] at e
        have : (48 : UInt8).toNat = 48 := rfl
        omega
    · rw [decDigits, dif_neg h]
      obtain ⟨h1, h2, h3, h4⟩ := ih (u / 10) (by omega)
      have e := toNat_dig (u % 10) (by omega)
      refine ⟨?_, ?_, by simp, fun _ => ?_⟩
      · rw [List.all_append, h1]
        simp [isDig, e]
        omega
      · rw [val_snoc, h2, e]
        omega
      · have := h4 (by omega)
        cases hd : decDigits (u / 10) with
        | nil => exact absurd hd h3
        | cons x r =>
          rw [hd] at this
          simpa using this

/-- Decimals as they are written: 1 to 7, no nought ahead. -/
def canon (l : List UInt8) : Bool := decide (1 ≤ l.length) && decide (l.length ≤ 7) && !(decide (1 < l.length) && (l.head? == some 48)) && l.all isDig
theorem canon_iff (l : List UInt8) : canon l = true ↔ lean_ l ∧ l.length ≤ 7 ∧ l.all isDig = true := by
  unfold canon lean_
  simp only [Bool.and_eq_true, decide_eq_true_eq, Bool.not_eq_true', Bool.and_eq_false_iff, decide_eq_false_iff_not, beq_eq_false_iff_ne, ne_eq]
  constructor
  · rintro ⟨⟨⟨h1, h2⟩, h3⟩, h4⟩
    refine ⟨⟨fun e => by subst e; simp at h1, ?_⟩, h2, h4⟩
    rcases h3 with h3 | h3
    · exact .inl (by omega)
    · exact .inr h3
  · rintro ⟨⟨h1, h2⟩, h3, h4⟩
    have : l.length ≠ 0 := fun e => h1 (List.length_eq_zero_iff.1 e)
    refine ⟨⟨⟨by omega, h3⟩, ?_⟩, h4⟩
    rcases h2 with h2 | h2
    · exact .inl (by omega)
    · exact .inr h2
/-- The number that the reference reads. -/
def specNum (l : List UInt8) : Option Int := if l.head? = some 45 then (if canon l.tail = true ∧ l.tail ≠ [48] then some (-(val 0 l.tail : Int)) else none) else (if canon l = true then some (val 0 l : Int) else none)
theorem canon_val {l : List UInt8} (h : canon l = true) : parseMag l = .ok (val 0 l) ∧ val 0 l < 10000000 ∧ decDigits (val 0 l) = l := by
  obtain ⟨h1, h2, h3⟩ := (canon_iff l).1 h
  have hp : 10 ^ l.length ≤ 10 ^ 7 := Nat.pow_le_pow_right (by decide) h2
  have hv := val_lt l h3 0
  refine ⟨?_, by omega, dec_val _ l rfl h3 h1⟩
  unfold parseMag
  rw [if_neg h1.1]
  exact parse_val l h3 10000000 (by decide) 0 (by omega)
theorem dec_canon {u : Nat} (h : (decDigits u).length ≤ 7) : canon (decDigits u) = true := by
  obtain ⟨h1, h2, h3, h4⟩ := dec_facts u
  refine (canon_iff _).2 ⟨⟨h3, ?_⟩, h, h1⟩
  by_cases h0 : u = 0
  · subst h0
    exact .inl (by rw [decDigits, dif_pos (by decide)]; rfl)
  · exact .inr (h4 (by omega))
theorem dec_head (u : Nat) : (decDigits u).head? ≠ some 45 := by
  obtain ⟨h1, h2, h3, h4⟩ := dec_facts u
  cases hd : decDigits u with
  | nil => simp
  | cons x r =>
    rw [hd, List.all_cons, Bool.and_eq_true] at h1
    have := (isDig_iff x).1 h1.1
    simp only [List.head?_cons, ne_eq, Option.some.injEq]
    intro e
    rw [e] at this
    exact absurd this.1 (by decide)
theorem trim_other {l : List UInt8} (h : l.head? ≠ some 45) : trimPrefix l [45] = l := by
  unfold trimPrefix hasPrefix
  cases l with
  | nil => rfl
  | cons x r =>
    have : ((45 : UInt8) == x) = false := by
      rw [beq_eq_false_iff_ne]
      intro e
      exact h (by rw [← e]; rfl)
    simp [List.isPrefixOf, this]
theorem trim_minus (r : List UInt8) : trimPrefix (45 :: r) [45] = r := by
  unfold trimPrefix hasPrefix
  simp [List.isPrefixOf]
/-- Of strconv's words just those that the reference takes. -/
theorem num_iff (l : List UInt8) (n : Int) : (atoiAll l = .ok n ∧ itoa n = l ∧ (trimPrefix l [45]).length ≤ 7) ↔ specNum l = some n := by
  constructor
  · rintro ⟨h1, h2, h3⟩
    by_cases hn : n < 0
    · obtain ⟨u, rfl⟩ : ∃ u : Nat, n = -(u : Int) := ⟨n.natAbs, by omega⟩
      rw [itoa_neg u (by omega)] at h2
      subst h2
      rw [trim_minus] at h3
      have hc := dec_canon h3
      obtain ⟨f1, f2, f3, f4⟩ := dec_facts u
      unfold specNum
      rw [List.head?_cons, if_pos rfl, List.tail_cons, if_pos ⟨hc, fun e => by
        rw [e, val_cons, val_nil, show (48 : UInt8).toNat = 48 from rfl] at f2
        omega⟩, f2]
    · obtain ⟨u, rfl⟩ := Int.eq_ofNat_of_zero_le (show 0 ≤ n by omega)
      rw [itoa_nonneg] at h2
      subst h2
      rw [trim_other (dec_head u)] at h3
      have hc := dec_canon h3
      obtain ⟨f1, f2, f3, f4⟩ := dec_facts u
      unfold specNum
      rw [if_neg (dec_head u), if_pos hc, f2]
  · intro h
    unfold specNum at h
    by_cases h45 : l.head? = some 45
    · rw [if_pos h45] at h
      obtain ⟨t, rfl⟩ : ∃ t, l = 45 :: t := by
        cases l with
        | nil => cases h45
        | cons x r => exact ⟨r, by simp at h45; rw [h45]⟩
      rw [List.tail_cons] at h
      by_cases hc : canon t = true ∧ t ≠ [48]
      · rw [if_pos hc] at h
        obtain rfl := Option.some.inj h
        obtain ⟨g1, g2, g3⟩ := canon_val hc.1
        obtain ⟨k1, k2, k3⟩ := (canon_iff t).1 hc.1
        have hpos : 1 ≤ val 0 t := by
          rcases Nat.eq_zero_or_pos (val 0 t) with h0 | h0
          · rw [h0, decDigits, dif_pos (by decide)] at g3
            exact absurd g3.symm hc.2
          · exact h0
        refine ⟨?_, ?_, by rw [trim_minus]; exact k2⟩
        · rw [atoiAll_minus, g1]
          simp only [signed]
          rw [if_neg (by omega)]
        · rw [itoa_neg _ hpos, g3]
      · rw [if_neg hc] at h
        cases h
    · rw [if_neg h45] at h
      by_cases hc : canon l = true
      · rw [if_pos hc] at h
        obtain rfl := Option.some.inj h
        obtain ⟨g1, g2, g3⟩ := canon_val hc
        obtain ⟨k1, k2, k3⟩ := (canon_iff l).1 hc
        refine ⟨?_, by rw [itoa_nonneg, g3], by rw [trim_other h45]; exact k2⟩
        cases l with
        | nil => exact absurd rfl k1.1
        | cons x r =>
          rw [List.all_cons, Bool.and_eq_true] at k3
          have hx := (isDig_iff x).1 k3.1
          rw [atoiAll_plain x r (by omega) (by omega), g1]
          simp only [signless]
          rw [if_neg (by omega)]
      · rw [if_neg hc] at h
        cases h
end Go.Proofs.YtgmkfhgebinfgaaDoor.Dig
