/- The law over numbers and lists: the reference's JobParse answers what a job's lines say. No condition but that the lines are not too many nor too long. -/
import Derived.Test.YtgmkfhgebinfgaaDoorJob
import Derived.Test.YtgmkfhgebinfgaaDoorDig
import Derived.Test.YtgmkfhgebinfgaaDoorQFnExactJobParsex3
import Derived.Test.YtgmkfhgebinfgaaDoorQFnExactJobParsex6
import Derived.Laws.Strings
import Derived.Lib.IndexBytes
set_option linter.unusedVariables false
set_option linter.unusedSimpArgs false
namespace Go.Proofs.YtgmkfhgebinfgaaDoor.Num
open Go.RowKit Go.Proofs.YtgmkfhgebinfgaaDoorW.PrintWords Go.Proofs.YtgmkfhgebinfgaaDoorW.PrintLast Go.Proofs.YtgmkfhgebinfgaaDoor.PFnExactJobParse Go.Proofs.YtgmkfhgebinfgaaDoor.Aid Go.Proofs.YtgmkfhgebinfgaaDoor.Dig

/-! ### Strings as lists -/
def toBA (l : List UInt8) : ByteArray := ⟨l.toArray⟩
theorem toBA_size (l : List UInt8) : (toBA l).size = l.length := List.size_toArray
theorem toBA_list (l : List UInt8) : (toBA l).data.toList = l := rfl
theorem toBA_toList (l : List UInt8) : (toBA l).toList = l := by rw [ByteArray.toList_eq]; rfl
theorem size_list (s : ByteArray) : s.size = s.data.toList.length := Array.length_toList.symm
theorem bt_list (s : ByteArray) (j : Nat) (h : j < s.data.toList.length) : bt s (j : Int) = ((s.data.toList[j]).toNat : Int) := by
  have h' : ((j : Int)).toNat < s.size := by rw [size_list]; simpa using h
  rw [← bt_at s j h']
  simp only [Int.toNat_natCast]
  rfl
theorem isNum_eq (s : ByteArray) : isNum s = specNum s.data.toList := by
  have e1 : ∀ v, (((itoaB v).toList == s.toList) = true) ↔ Lib.itoa v = s.data.toList := fun v => by
    rw [beq_iff_eq, ByteArray.toList_eq, ByteArray.toList_eq]
    exact Iff.rfl
  have e2 : (trimM s).size = (Lib.trimPrefix s.data.toList [45]).length := List.size_toArray
  apply Option.ext
  intro n
  rw [← num_iff]
  unfold isNum
  rcases ha : Lib.atoiAll s.data.toList with v | _ | _
  · simp only [e1, e2]
    by_cases c1 : Lib.itoa v = s.data.toList
    · rw [if_pos c1]
      by_cases c2 : (Lib.trimPrefix s.data.toList [45]).length ≤ 7
      · rw [if_pos c2]
        constructor
        · intro h
          obtain rfl := Option.some.inj h
          exact ⟨rfl, c1, c2⟩
        · rintro ⟨h, _, _⟩
          injection h with h
          rw [h]
      · rw [if_neg c2]
        constructor
        · intro h
          cases h
        · rintro ⟨_, _, h⟩
          exact absurd h c2
    · rw [if_neg c1]
      constructor
      · intro h
        cases h
      · rintro ⟨h, h2, _⟩
        injection h with h
        rw [← h] at h2
        exact absurd h2 c1
  · constructor
    · intro h
      cases h
    · rintro ⟨h, _⟩
      cases h
  · constructor
    · intro h
      cases h
    · rintro ⟨h, _⟩
      cases h

/-! ### The reference's number -/
theorem Ev.congr' {α : Type} {g : Nat → Option α} {r r' : α} (h : Ev g r) (e : r = r') : Ev g r' := e ▸ h
/-- One digit more. -/
def dstep (n : Int) (c : UInt8) : Sum (Int × Bool) Int := if c.toNat < 48 then .inl (0, false) else (if 57 < c.toNat then .inl (0, false) else .inr (n * 10 + ((c.toNat : Int) - 48)))
theorem drun (sg : Int) (l : List UInt8) (m : Nat) : runL dstep (fun n => (sg * n, true)) l (m : Int) = if l.all isDig = true then (sg * (val m l : Int), true) else (0, false) := by
  induction l generalizing m with
  | nil => simp [runL, val_nil]
  | cons c l ih =>
    rw [List.all_cons]
    by_cases h1 : c.toNat < 48
    · have hd : isDig c = false := by simp [isDig]; omega
      have d : dstep (m : Int) c = .inl (0, false) := by unfold dstep; rw [if_pos h1]
      simp [runL, d, hd]
    · by_cases h2 : 57 < c.toNat
      · have hd : isDig c = false := by simp [isDig]; omega
        have d : dstep (m : Int) c = .inl (0, false) := by unfold dstep; rw [if_neg h1, if_pos h2]
        simp [runL, d, hd]
      · have hd : isDig c = true := (isDig_iff c).2 (by omega)
        have d : dstep (m : Int) c = .inr ((m * 10 + (c.toNat - 48) : Nat) : Int) := by
          unfold dstep
          rw [if_neg h1, if_neg h2]
          congr 1
          omega
        simp only [runL, d, hd, Bool.true_and, ih, val_cons]
theorem digits_ev (s : ByteArray) (sg : Int) (hsg : sg = 1 ∨ sg = -1) (hl : s.data.toList.length ≤ 7) : Ev (fun k => spec_l1Number.l0 k s sg 0 0) (if s.data.toList.all isDig = true then (sg * (val 0 s.data.toList : Int), true) else (0, false)) := by
  have hsz := size_list s
  have h := Ev_run (fun k n i => spec_l1Number.l0 k s sg n i) s.data.toList dstep (fun n => (sg * n, true)) (fun j n => ∃ m : Nat, n = (m : Int) ∧ m < 10 ^ j)
    (fun j n hj hi n' hs => by
      obtain ⟨m, rfl, hm⟩ := hi
      have hp : 10 ^ j ≤ 10 ^ 6 := Nat.pow_le_pow_right (by decide) (by omega)
      unfold dstep at hs
      by_cases h1 : (s.data.toList[j]).toNat < 48
      · rw [if_pos h1] at hs
        cases hs
      · rw [if_neg h1] at hs
        by_cases h2 : 57 < (s.data.toList[j]).toNat
        · rw [if_pos h2] at hs
          cases hs
        · rw [if_neg h2] at hs
          obtain rfl := Sum.inr.inj hs
          refine ⟨⟨m * 10 + ((s.data.toList[j]).toNat - 48), by omega, by rw [Nat.pow_succ]; omega⟩, fun r hr => Ev_eq hr (fun k => ?_)⟩
          simp only [spec_l1Number.l0]
          rw [if_pos (by omega), if_pos (by omega), bt_list s j hj, if_neg (by omega), if_neg (by omega), wrap_nat hj (by omega), show wrap64 ((m : Int) * 10) = (m : Int) * 10 from wrap_id (by omega) (by omega), show (((s.data.toList[j]).toNat : Int) - 48) % 256 = ((s.data.toList[j]).toNat : Int) - 48 by omega,
            show wrap64 ((m : Int) * 10 + (((s.data.toList[j]).toNat : Int) - 48)) = (m : Int) * 10 + (((s.data.toList[j]).toNat : Int) - 48) from wrap_id (by omega) (by omega)])
    (fun j n hj hi r hs => by
      unfold dstep at hs
      refine Ev_now1 (fun k => ?_)
      simp only [spec_l1Number.l0]
      rw [if_pos (by omega), if_pos (by omega), bt_list s j hj]
      by_cases h1 : (s.data.toList[j]).toNat < 48
      · rw [if_pos h1] at hs
        obtain rfl := Sum.inl.inj hs
        rw [if_pos (by omega)]
      · rw [if_neg h1] at hs
        by_cases h2 : 57 < (s.data.toList[j]).toNat
        · rw [if_pos h2] at hs
          obtain rfl := Sum.inl.inj hs
          rw [if_neg (by omega), if_pos (by omega)]
        · rw [if_neg h2] at hs
          cases hs)
    (fun n hi => by
      obtain ⟨m, rfl, hm⟩ := hi
      have hp : 10 ^ s.data.toList.length ≤ 10 ^ 7 := Nat.pow_le_pow_right (by decide) hl
      refine Ev_now1 (fun k => ?_)
      simp only [spec_l1Number.l0]
      rw [if_neg (by omega)]
      rcases hsg with rfl | rfl
      · rw [wrap_id (by omega) (by omega)]
      · rw [wrap_id (by omega) (by omega)]) 0 ⟨0, rfl, by simp⟩
  have e := drun sg s.data.toList 0
  rw [show ((0 : Nat) : Int) = 0 from rfl] at e
  rw [e] at h
  exact h
theorem l1In_num (n : Nat) : spec_l1In.f (n : Int) 1 7 = some (decide (1 ≤ n) && decide (n ≤ 7)) := by
  rw [l1In_is]
  congr 1
  by_cases h1 : 1 ≤ n <;> by_cases h2 : n ≤ 7 <;> simp [h1, h2] <;> omega
theorem j2_ev (s : ByteArray) (sg : Int) (hsg : sg = 1 ∨ sg = -1) (hl : s.data.toList.length ≤ 7) (b : Bool) : Ev (fun k => spec_l1Number.j2 k s sg b) (if b = true then (0, false) else (if s.data.toList.all isDig = true then (sg * (val 0 s.data.toList : Int), true) else (0, false))) := by
  cases b with
  | true => exact Ev_now1 (fun k => by simp only [spec_l1Number.j2, if_true])
  | false =>
    rw [if_neg (by decide)]
    exact Ev_eq (digits_ev s sg hsg hl) (fun k => by simp only [spec_l1Number.j2, Bool.false_eq_true, if_false])
/-- Behind the sign. -/
theorem j1_ev (s : ByteArray) (sg : Int) (hsg : sg = 1 ∨ sg = -1) (hs : s.size ≤ 4000000) : Ev (fun k => spec_l1Number.j1 k s sg) (if canon s.data.toList = true ∧ ¬ (sg < 0 ∧ s.data.toList = [48]) then (sg * (val 0 s.data.toList : Int), true) else (0, false)) := by
  have hsz := size_list s
  have t48 : (s.toList == ([48] : List UInt8)) = decide (s.data.toList = [48]) := by
    rw [ByteArray.toList_eq]
    by_cases h : s.data.toList = [48] <;> simp [h]
  by_cases hl : 1 ≤ s.size ∧ s.size ≤ 7
  · have hin : spec_l1In.f (s.size : Int) 1 7 = some true := by rw [l1In_num]; simp [hl]
    obtain ⟨c, r, hc⟩ : ∃ c r, s.data.toList = c :: r := by
      cases h : s.data.toList with
      | nil => rw [h, List.length_nil] at hsz; omega
      | cons c r => exact ⟨c, r, rfl⟩
    have hb0 : bt s 0 = (c.toNat : Int) := by
      have h := bt_list s 0 (by rw [hc]; simp)
      simp only [hc, List.getElem_cons_zero] at h
      exact h
    have h48 : (bt s 0 = 48) ↔ c = 48 := by
      rw [hb0]
      constructor
      · intro h
        rw [← UInt8.toNat_inj]
        have : (48 : UInt8).toNat = 48 := rfl
        omega
      · rintro rfl
        rfl
    -- which way
    have hway : ∀ k, spec_l1Number.j1 (k + 1) s sg = spec_l1Number.j2 k s sg (decide (1 < s.size ∧ c = 48) || (decide (sg < 0) && decide (s.data.toList = [48]))) := fun k => by
      simp only [spec_l1Number.j1, hin, Option.bind_some, if_true, t48]
      by_cases h1 : (s.size : Int) > 1
      · rw [if_pos h1, if_pos (by omega)]
        have h1' : 1 < s.size := by omega
        by_cases h2 : c = 48
        · rw [if_pos (h48.2 h2)]
          simp [h1', h2]
        · rw [if_neg (fun e => h2 (h48.1 e))]
          by_cases h3 : sg < 0
          · rw [if_pos h3]
            simp [h2, h3]
          · rw [if_neg h3]
            simp [h2, h3]
      · rw [if_neg h1]
        have h1' : ¬ 1 < s.size := by omega
        by_cases h3 : sg < 0
        · rw [if_pos h3]
          simp [h1', h3]
        · rw [if_neg h3]
          simp [h1', h3]
    refine Ev.congr' (Ev_eq (j2_ev s sg hsg (by omega) _) hway) ?_
    have hcan : canon s.data.toList = (!decide (1 < s.size ∧ c = 48) && s.data.toList.all isDig) := by
      unfold canon
      rw [← hsz, hc, List.head?_cons]
      by_cases h2 : c = 48 <;> by_cases h1 : 1 < s.size <;> simp [hl, h1, h2]
    rw [hcan]
    by_cases a : 1 < s.size ∧ c = 48
    · simp [a]
    · by_cases b : sg < 0
      · by_cases d : s.data.toList = [48]
        · simp [a, b, d]
        · simp [a, b, d]
      · simp [a, b]
  · have hin : spec_l1In.f (s.size : Int) 1 7 = some false := by
      rw [l1In_num]
      simp
      omega
    have hcan : canon s.data.toList = false := by
      unfold canon
      rw [← hsz]
      by_cases h1 : 1 ≤ s.size <;> by_cases h2 : s.size ≤ 7 <;> simp [h1, h2]
      exact absurd ⟨h1, h2⟩ hl
    refine Ev.step (f := fun k => spec_l1Number.j2 k s sg true) (fun k => by simp only [spec_l1Number.j1, hin, Option.bind_some, Bool.false_eq_true, if_false]) ?_
    rw [hcan]
    simp only [Bool.false_eq_true, false_and, if_false]
    exact Ev_now1 (fun k => by simp only [spec_l1Number.j2, if_true])
theorem extract1_list (s : ByteArray) : (s.extract 1 s.size).data.toList = s.data.toList.tail := by
  rw [Lib.extract_to_end, List.drop_one]
/-- The reference's number of a word. -/
theorem number_ev (s : ByteArray) (hs : s.size ≤ 4000000) : Ev (fun k => spec_l1Number.f k s) (match specNum s.data.toList with
    | some n => (n, true)
    | none => (0, false)) := by
  have hsz := size_list s
  unfold spec_l1Number.f
  by_cases h0 : s.data.toList.head? = some 45
  · obtain ⟨r, hc⟩ : ∃ r, s.data.toList = 45 :: r := by
      cases h : s.data.toList with
      | nil => rw [h] at h0; cases h0
      | cons c r => rw [h] at h0; exact ⟨r, by simp at h0; rw [h0]⟩
    have hpos : 1 ≤ s.size := by rw [hsz, hc]; simp
    have hb0 : bt s 0 = 45 := by
      have h := bt_list s 0 (by rw [hc]; simp)
      simp only [hc, List.getElem_cons_zero] at h
      exact h
    have hx : (s.extract 1 s.size).data.toList = r := by rw [extract1_list, hc]; rfl
    have hxs : (s.extract 1 s.size).size ≤ 4000000 := by
      rw [size_list, hx]
      have : s.size = r.length + 1 := by rw [hsz, hc]; simp
      omega
    have h1 := j1_ev (s.extract 1 s.size) (-1) (.inr rfl) hxs
    rw [hx] at h1
    have e : (match specNum s.data.toList with
        | some n => (n, true)
        | none => (0, false)) = (if canon r = true ∧ ¬ ((-1 : Int) < 0 ∧ r = [48]) then ((-1 : Int) * (val 0 r : Int), true) else (0, false)) := by
      unfold specNum
      rw [if_pos h0, hc, List.tail_cons]
      by_cases a : canon r = true <;> by_cases b : r = [48] <;> simp [a, b]
    rw [e]
    refine Ev.step (f := fun k => spec_l1Number.j1 k (s.extract 1 s.size) (-1)) (fun k => ?_) h1
    rw [if_pos (by omega), if_pos (by omega), hb0]
    simp only [spec_l1Number.j0, BEq.rfl, if_true]
    rw [if_pos (by omega)]
  · have hb0 : ∀ h : 1 ≤ s.size, (bt s 0 == 45) = false := fun h => by
      obtain ⟨c, r, hc⟩ : ∃ c r, s.data.toList = c :: r := by
        cases h' : s.data.toList with
        | nil => rw [h', List.length_nil] at hsz; omega
        | cons c r => exact ⟨c, r, rfl⟩
      have hb := bt_list s 0 (by rw [hc]; simp)
      simp only [hc, List.getElem_cons_zero] at hb
      rw [show bt s 0 = (c.toNat : Int) from hb, beq_eq_false_iff_ne]
      intro e
      refine h0 ?_
      rw [hc, List.head?_cons, Option.some.injEq, ← UInt8.toNat_inj]
      have : (45 : UInt8).toNat = 45 := rfl
      omega
    have h1 := j1_ev s 1 (.inl rfl) hs
    have e : (match specNum s.data.toList with
        | some n => (n, true)
        | none => (0, false)) = (if canon s.data.toList = true ∧ ¬ ((1 : Int) < 0 ∧ s.data.toList = [48]) then ((1 : Int) * (val 0 s.data.toList : Int), true) else (0, false)) := by
      unfold specNum
      rw [if_neg h0]
      by_cases a : canon s.data.toList = true <;> simp [a]
    rw [e]
    refine Ev.step (f := fun k => spec_l1Number.j1 k s 1) (fun k => ?_) h1
    by_cases h : 1 ≤ s.size
    · rw [if_pos (by omega), if_pos (by omega), hb0 h]
      simp only [spec_l1Number.j0, Bool.false_eq_true, if_false]
    · rw [if_neg (by omega)]
      simp only [spec_l1Number.j0, Bool.false_eq_true, if_false]

/-! ### The reference's words -/
/-- Cut at blanks. -/
def split (cur : List UInt8) : List UInt8 → List (List UInt8)
  | [] => [cur]
  | c :: r => if c = 32 then cur :: split [] r else split (cur ++ [c]) r
theorem split_plain (r cur : List UInt8) (h : (32 : UInt8) ∉ r) : split cur r = [cur ++ r] := by
  induction r generalizing cur with
  | nil => simp [split]
  | cons c r ih =>
    rw [List.mem_cons, not_or] at h
    rw [split, if_neg (fun e => h.1 e.symm), ih _ h.2]
    simp
theorem split_name (n r cur : List UInt8) (h : (32 : UInt8) ∉ n) : split cur (n ++ 32 :: r) = (cur ++ n) :: split [] r := by
  induction n generalizing cur with
  | nil => simp [split]
  | cons c n ih =>
    rw [List.mem_cons, not_or] at h
    rw [List.cons_append, split, if_neg (fun e => h.1 e.symm), ih _ h.2]
    simp
theorem split_ne (r cur : List UInt8) : split cur r ≠ [] := by
  induction r generalizing cur with
  | nil => simp [split]
  | cons c r ih =>
    rw [split]
    by_cases e : c = 32
    · rw [if_pos e]
      simp
    · rw [if_neg e]
      exact ih _
theorem split_one (r cur w : List UInt8) (h : split cur r = [w]) : w = cur ++ r ∧ (32 : UInt8) ∉ r := by
  induction r generalizing cur with
  | nil =>
    simp only [split, List.cons.injEq, and_true] at h
    exact ⟨by simp [h], by simp⟩
  | cons c r ih =>
    rw [split] at h
    by_cases e : c = 32
    · rw [if_pos e] at h
      injection h with h1 h2
      exact absurd h2 (split_ne _ _)
    · rw [if_neg e] at h
      obtain ⟨h1, h2⟩ := ih _ h
      exact ⟨by rw [h1]; simp, by rw [List.mem_cons, not_or]; exact ⟨fun x => e x.symm, h2⟩⟩
theorem split_two (l cur a b : List UInt8) (h : split cur l = [a, b]) : cur ++ l = a ++ 32 :: b ∧ (32 : UInt8) ∉ b := by
  induction l generalizing cur with
  | nil => simp [split] at h
  | cons c r ih =>
    rw [split] at h
    by_cases e : c = 32
    · rw [if_pos e] at h
      injection h with h1 h2
      obtain ⟨h3, h4⟩ := split_one _ _ _ h2
      subst h1 e
      exact ⟨by rw [h3]; rfl, by rw [h3]; exact h4⟩
    · rw [if_neg e] at h
      obtain ⟨h1, h2⟩ := ih _ h
      exact ⟨by rw [← h1]; simp, h2⟩
/-- The words of a line. -/
def words (l : List UInt8) : List (List UInt8) := if l.length > 100 then [] else split [] l
theorem toBA_snoc (l : List UInt8) (c : UInt8) : toBA l ++ strOfNums [(c.toNat : Int)] = toBA (l ++ [c]) := by
  apply ByteArray.ext
  rw [ByteArray.data_append]
  apply Array.ext'
  simp [toBA, strOfNums]
def wstep (s : List (List UInt8) × List UInt8) (c : UInt8) : List (List UInt8) × List UInt8 := if c = 32 then (s.1 ++ [s.2], []) else (s.1, s.2 ++ [c])
theorem wrun (l : List UInt8) (s : List (List UInt8) × List UInt8) : (l.foldl wstep s).1 ++ [(l.foldl wstep s).2] = s.1 ++ split s.2 l := by
  induction l generalizing s with
  | nil => rfl
  | cons c l ih =>
    rw [List.foldl_cons, ih]
    unfold wstep
    rw [split]
    by_cases e : c = 32
    · rw [if_pos e, if_pos e]
      simp
    · rw [if_neg e, if_neg e]
theorem words_ev (s : ByteArray) : Ev (fun k => spec_l1Words.f k s) ((words s.data.toList).map toBA) := by
  have hsz := size_list s
  unfold spec_l1Words.f
  simp only [Option.bind_some]
  by_cases hl : (s.size : Int) > 100
  · simp only [if_pos hl]
    refine Ev.congr' (Ev.now _) ?_
    unfold words
    rw [if_pos (by omega)]
    rfl
  · simp only [if_neg hl]
    have h := Ev_run (fun k (st : List (List UInt8) × List UInt8) i => spec_l1Words.l0 k s (st.1.map toBA) (toBA st.2) i) s.data.toList (fun st c => .inr (wstep st c)) (fun st => (st.1 ++ [st.2]).map toBA) (fun j st => st.1.length ≤ j ∧ st.2.length ≤ j)
      (fun j st hj hi st' hs => by
        obtain rfl := Sum.inr.inj hs
        obtain ⟨i1, i2⟩ := hi
        have hb := bt_list s j hj
        refine ⟨?_, fun r hr => Ev_eq hr (fun k => ?_)⟩
        · unfold wstep
          by_cases e : s.data.toList[j] = 32
          · rw [if_pos e]
            exact ⟨by simp; omega, by simp⟩
          · rw [if_neg e]
            exact ⟨by simp only; omega, by simp; omega⟩
        · simp only [spec_l1Words.l0]
          rw [if_pos (by omega), if_pos (by omega), hb, wrap_nat hj (by omega)]
          unfold wstep
          by_cases e : s.data.toList[j] = 32
          · rw [if_pos e, if_pos (by rw [e]; rfl), if_pos (by simp; omega)]
            simp [toBA]
          · have e' : ¬ ((s.data.toList[j]).toNat : Int) = 32 := fun x => e (by
              rw [← UInt8.toNat_inj]
              have : (32 : UInt8).toNat = 32 := rfl
              omega)
            rw [if_neg e, if_neg e']
            simp only [Option.bind_some]
            rw [if_pos (by rw [toBA_size, strOfNums_size]; simp; omega), toBA_snoc])
      (fun j st hj hi r hs => by cases hs)
      (fun st hi => by
        obtain ⟨i1, i2⟩ := hi
        refine Ev_now1 (fun k => ?_)
        simp only [spec_l1Words.l0]
        rw [if_neg (by omega), if_pos (by simp; omega)]
        simp) ([], []) ⟨by simp, by simp⟩
    rw [runL_fold] at h
    rw [wrun] at h
    refine Ev.congr' h ?_
    unfold words
    rw [if_neg (by omega)]
    rfl
end Go.Proofs.YtgmkfhgebinfgaaDoor.Num
