/- The law over numbers and lists: the reference's JobParse answers what a job's lines say. No condition but that the lines are not too many. -/
import Derived.Test.YtgmkfhgebinfgaaDoorPure
set_option linter.unusedVariables false
set_option linter.unusedSimpArgs false
namespace Go.Proofs.YtgmkfhgebinfgaaDoor.Num
open Go.RowKit Go.Proofs.YtgmkfhgebinfgaaDoorW.PrintWords Go.Proofs.YtgmkfhgebinfgaaDoorW.PrintLast Go.Proofs.YtgmkfhgebinfgaaDoor.PFnExactJobParse Go.Proofs.YtgmkfhgebinfgaaDoor.Aid Go.Proofs.YtgmkfhgebinfgaaDoor.Dig

/-- The i-th word's bytes. -/
def nm (i : Nat) : List UInt8 := (nameOf i).data.toList
theorem nm_plain (i : Nat) (h : i < 10) : (32 : UInt8) ∉ nm i ∧ (nm i).length ≤ 7 := by
  have : i = 0 ∨ i = 1 ∨ i = 2 ∨ i = 3 ∨ i = 4 ∨ i = 5 ∨ i = 6 ∨ i = 7 ∨ i = 8 ∨ i = 9 := by omega
  rcases this with rfl | rfl | rfl | rfl | rfl | rfl | rfl | rfl | rfl | rfl <;> decide
theorem pre_list (i : Nat) : (nameOf i ++ ⟨#[32]⟩).data.toList = nm i ++ [32] := by
  rw [ByteArray.data_append, Array.toList_append]
  rfl
theorem hasPre_iff (i : Nat) (l : ByteArray) : hasPre i l = true ↔ ∃ r, l.data.toList = nm i ++ 32 :: r := by
  unfold hasPre Lib.hasPrefix
  rw [pre_list, List.isPrefixOf_iff_prefix]
  constructor
  · rintro ⟨r, h⟩
    exact ⟨r, by rw [← h]; simp⟩
  · rintro ⟨r, h⟩
    exact ⟨r, by rw [h]; simp⟩
theorem restOf_list (i : Nat) (l : ByteArray) (r : List UInt8) (h : l.data.toList = nm i ++ 32 :: r) : (restOf i l).data.toList = r := by
  have hp : Lib.hasPrefix l.data.toList (nm i ++ [32]) = true := by
    unfold Lib.hasPrefix
    rw [List.isPrefixOf_iff_prefix]
    exact ⟨r, by rw [h]; simp⟩
  show (Lib.trimPrefix l.data.toList (nameOf i ++ ⟨#[32]⟩).data.toList) = r
  rw [pre_list]
  unfold Lib.trimPrefix
  rw [if_pos hp, h]
  simp
theorem specNum_plain {r : List UInt8} {n : Int} (h : specNum r = some n) : (32 : UInt8) ∉ r ∧ r.length ≤ 8 := by
  have key : ∀ t : List UInt8, canon t = true → (32 : UInt8) ∉ t ∧ t.length ≤ 7 := fun t ht => by
    obtain ⟨h1, h2, h3⟩ := (canon_iff t).1 ht
    refine ⟨fun hm => ?_, h2⟩
    have := List.all_eq_true.1 h3 _ hm
    exact absurd this (by decide)
  unfold specNum at h
  by_cases h0 : r.head? = some 45
  · rw [if_pos h0] at h
    obtain ⟨t, rfl⟩ : ∃ t, r = 45 :: t := by
      cases r with
      | nil => cases h0
      | cons x t => exact ⟨t, by simp at h0; rw [h0]⟩
    by_cases hc : canon (45 :: t).tail = true ∧ (45 :: t).tail ≠ [48]
    · obtain ⟨k1, k2⟩ := key t hc.1
      exact ⟨by rw [List.mem_cons, not_or]; exact ⟨by decide, k1⟩, by simp; omega⟩
    · rw [if_neg hc] at h
      cases h
  · rw [if_neg h0] at h
    by_cases hc : canon r = true
    · obtain ⟨k1, k2⟩ := key r hc
      exact ⟨k1, by omega⟩
    · rw [if_neg hc] at h
      cases h
/-- What the reference takes of a line. -/
def pickNum (i : Nat) (b : List UInt8) : Option Int := match specNum b with
  | some n => if i = 7 then (if 0 ≤ n ∧ n ≤ 1 then some n else none) else some n
  | none => none
theorem line_two (i : Nat) (hi : i < 10) (l : ByteArray) (a b : List UInt8) (h : words l.data.toList = [a, b]) : lineNum i l = if a = nm i then pickNum i b else none := by
  obtain ⟨p1, p2⟩ := nm_plain i hi
  unfold words at h
  by_cases hl : l.data.toList.length > 100
  · rw [if_pos hl] at h
    cases h
  · rw [if_neg hl] at h
    obtain ⟨e, hb⟩ := split_two _ _ _ _ h
    rw [List.nil_append] at e
    unfold lineNum
    by_cases ha : a = nm i
    · rw [if_pos ha]
      subst ha
      rw [if_pos ((hasPre_iff i l).2 ⟨b, e⟩), isNum_eq, restOf_list i l b e]
      rfl
    · rw [if_neg ha, if_neg (fun hp => by
        obtain ⟨r, hr⟩ := (hasPre_iff i l).1 hp
        rw [hr, split_name _ _ _ p1] at h
        injection h with h1 _
        exact ha h1.symm)]
theorem line_other (i : Nat) (hi : i < 10) (l : ByteArray) (h : (words l.data.toList).length ≠ 2) : lineNum i l = none := by
  obtain ⟨p1, p2⟩ := nm_plain i hi
  unfold lineNum
  by_cases hp : hasPre i l = true
  · rw [if_pos hp]
    obtain ⟨r, hr⟩ := (hasPre_iff i l).1 hp
    rw [isNum_eq, restOf_list i l r hr]
    cases hs : specNum r with
    | none => rfl
    | some n =>
      obtain ⟨q1, q2⟩ := specNum_plain hs
      refine absurd ?_ h
      unfold words
      rw [if_neg (by rw [hr]; simp; omega), hr, split_name _ _ _ p1, split_plain _ _ q1]
      rfl
  · rw [if_neg hp]

/-! ### The reference's loop -/
def finR (m : Nat) : Sum Nat (List Int) → List Int × Nat
  | .inl k => ([], k)
  | .inr ns => if ns.length < 10 then ([], m + 1) else (if jobOkL ns = true then (ns, 0) else ([], m + 1))
theorem jobRes_fin (lines : List ByteArray) : jobRes lines = finR lines.length (readJob lines []) := by
  unfold jobRes finR
  cases readJob lines [] <;> rfl
def outT (p : List Int × Nat) : Int × Int × Int × Int × Int × Int × Int × Bool × Int × Int × Int := (p.1.getD 0 0, p.1.getD 1 0, p.1.getD 2 0, p.1.getD 3 0, p.1.getD 4 0, p.1.getD 5 0, p.1.getD 6 0, (p.1.getD 7 0 == 1), p.1.getD 8 0, p.1.getD 9 0, (p.2 : Int))
theorem outT_nil (m : Nat) : outT ([], m) = (0, 0, 0, 0, 0, 0, 0, false, 0, 0, (m : Int)) := rfl
theorem names_is : spec_l4Names.f = some names := rfl
theorem names_len : names.length = 10 := rfl
theorem rd_is (ns : List Int) (j : Nat) : rd ns (j : Int) = ns.getD j 0 := rfl
theorem j1_no (lines : List ByteArray) (ns : List Int) (i : Nat) (hi : i ≤ 4000000) (t : List ByteArray) : Ev (fun k => spec_JobParse.j1 k lines ns (i : Int) t false) (outT ([], i + 1)) :=
  Ev_now1 (fun k => by
    simp only [spec_JobParse.j1, Bool.false_eq_true, if_false]
    rw [wrap_id (by omega) (by omega), outT_nil]
    rfl)
theorem j1_yes (lines : List ByteArray) (ns : List Int) (i : Nat) (hi : i < 10) (hn : ns.length ≤ 10) (a b : List UInt8) (hb : b.length ≤ 4000000) (r : Int × Int × Int × Int × Int × Int × Int × Bool × Int × Int × Int)
    (hgo : ∀ n, pickNum i b = some n → Ev (fun k => spec_JobParse.l0 k lines (ns ++ [n]) ((i : Int) + 1)) r) (hno : pickNum i b = none → r = outT ([], i + 1)) : Ev (fun k => spec_JobParse.j1 k lines ns (i : Int) [toBA a, toBA b] true) r := by
  have hn1 := number_ev (toBA b) (by rw [toBA_size]; exact hb)
  rw [toBA_list] at hn1
  have hw : wrap64 ((i : Int) + 1) = (i : Int) + 1 := wrap_id (by omega) (by omega)
  refine Ev.step (f := fun k => (spec_l1Number.f k (toBA b)).bind fun bt145 => (if bt145.2 = true then (if (i : Int) = 7 then ((spec_l1In.f bt145.1 0 1).bind fun t150 => (if t150 = true then (spec_JobParse.l0 k lines (ns ++ [bt145.1]) ((i : Int) + 1)) else (some (0, 0, 0, 0, 0, 0, 0, false, 0, 0, (i : Int) + 1)))) else (spec_JobParse.l0 k lines (ns ++ [bt145.1]) ((i : Int) + 1))) else (some (0, 0, 0, 0, 0, 0, 0, false, 0, 0, (i : Int) + 1))))
    (fun k => by
      simp only [spec_JobParse.j1, if_true, hw]
      rw [if_pos (by simp)]
      have e : rdOf ByteArray.empty [toBA a, toBA b] 1 = toBA b := rfl
      rw [e]
      congr 1
      funext x
      rw [if_pos (by omega)]
      simp -implicitDefEqProofs only [Option.bind_some]) (Ev.bind hn1 ?_)
  cases hs : specNum b with
  | none =>
    have hp : pickNum i b = none := by unfold pickNum; rw [hs]
    simp only [Bool.false_eq_true, if_false]
    rw [hno hp]
    exact Ev.now _
  | some n =>
    simp only [if_true]
    by_cases h7 : i = 7
    · have h7' : (i : Int) = 7 := by omega
      simp only [if_pos h7', l1In_is, Option.bind_some]
      by_cases hin : 0 ≤ n ∧ n ≤ 1
      · have hp : pickNum i b = some n := by unfold pickNum; rw [hs]; simp only; rw [if_pos h7, if_pos hin]
        simp only [hin, and_self, decide_true, if_true]
        exact hgo n hp
      · have hp : pickNum i b = none := by unfold pickNum; rw [hs]; simp only; rw [if_pos h7, if_neg hin]
        simp only [hin, decide_false, Bool.false_eq_true, if_false]
        rw [hno hp]
        exact Ev.now _
    · have h7' : ¬ (i : Int) = 7 := by omega
      have hp : pickNum i b = some n := by unfold pickNum; rw [hs]; simp only; rw [if_neg h7]
      simp only [if_neg h7']
      exact hgo n hp
theorem words_len (l : List UInt8) (a b : List UInt8) (h : words l = [a, b]) : b.length ≤ 100 := by
  unfold words at h
  by_cases hl : l.length > 100
  · rw [if_pos hl] at h
    cases h
  · rw [if_neg hl] at h
    obtain ⟨e, hb⟩ := split_two _ _ _ _ h
    rw [List.nil_append] at e
    rw [e] at hl
    simp at hl
    omega
theorem job_loop (lines : List ByteArray) (hm : lines.length ≤ 4000000) : ∀ (rest : List ByteArray) (ns : List Int), lines.drop ns.length = rest → ns.length ≤ 10 → ns.length + rest.length = lines.length → Ev (fun k => spec_JobParse.l0 k lines ns (ns.length : Int)) (outT (finR lines.length (readJob rest ns))) := by
  have hnl : names.length = 10 := names_len
  intro rest
  induction rest with
  | nil =>
    intro ns hd hn hl
    rw [List.length_nil, Nat.add_zero] at hl
    have hw : wrap64 ((lines.length : Int) + 1) = (lines.length : Int) + 1 := wrap_id (by omega) (by omega)
    by_cases h10 : ns.length < 10
    · refine Ev.congr' (Ev_now1 (r := (0, 0, 0, 0, 0, 0, 0, false, 0, 0, (lines.length : Int) + 1)) (fun k => ?_)) ?_
      · simp only [spec_JobParse.l0, names_is, Option.bind_some, hw]
        rw [if_neg (by omega), if_pos (by omega)]
      · simp only [readJob, finR]
        rw [if_pos h10, outT_nil]
        rfl
    · have hj : Ev (fun k => spec_JobOk.f k (ns.getD 0 0) (ns.getD 1 0) (ns.getD 2 0) (ns.getD 3 0) (ns.getD 4 0) (ns.getD 5 0) (ns.getD 6 0) (ns.getD 7 0 == 1) (ns.getD 8 0) (ns.getD 9 0)) (jobOkL ns) := Ev_two (fun k => specJobOk_is k _ _ _ _ _ _ _ _ _ _)
      refine Ev.step (f := fun k => (spec_JobOk.f k (ns.getD 0 0) (ns.getD 1 0) (ns.getD 2 0) (ns.getD 3 0) (ns.getD 4 0) (ns.getD 5 0) (ns.getD 6 0) (ns.getD 7 0 == 1) (ns.getD 8 0) (ns.getD 9 0)).bind fun t165 => (if t165 = true then (some (ns.getD 0 0, ns.getD 1 0, ns.getD 2 0, ns.getD 3 0, ns.getD 4 0, ns.getD 5 0, ns.getD 6 0, (ns.getD 7 0 == 1), ns.getD 8 0, ns.getD 9 0, 0)) else (some (0, 0, 0, 0, 0, 0, 0, false, 0, 0, (lines.length : Int) + 1))))
        (fun k => by
          simp only [spec_JobParse.l0, names_is, Option.bind_some, hw]
          rw [if_neg (by omega), if_neg (by omega), if_pos (by omega), if_pos (by omega), if_pos (by omega), if_pos (by omega), if_pos (by omega), if_pos (by omega), if_pos (by omega), if_pos (by omega), if_pos (by omega), if_pos (by omega)]
          rfl) (Ev.bind hj ?_)
      simp only [readJob, finR]
      rw [if_neg h10]
      cases hok : jobOkL ns with
      | true =>
        simp only [if_true]
        exact Ev.now _
      | false =>
        simp only [Bool.false_eq_true, if_false]
        exact Ev.congr' (Ev.now _) (by rw [outT_nil]; rfl)
  | cons l ls ih =>
    intro ns hd hn hl
    rw [List.length_cons] at hl
    have hlt : ns.length < lines.length := by omega
    have hdl := List.drop_eq_getElem_cons hlt
    rw [hd] at hdl
    injection hdl with hd1 hd2
    have hr : rdOf ByteArray.empty lines (ns.length : Int) = l := by
      unfold rdOf
      rw [Int.toNat_natCast, List.getD_eq_getElem?_getD, List.getElem?_eq_getElem hlt, ← hd1]
      rfl
    have hw := words_ev l
    have goal : ∀ r, (∀ t, t = (words l.data.toList).map toBA → Ev (fun k => if (ns.length : Int) < (names.length : Int) then (if (t.length : Int) = 2 then (if 0 < (t.length : Int) then (if (ns.length : Int) < (names.length : Int) then (spec_JobParse.j1 k lines ns (ns.length : Int) t ((rdOf ByteArray.empty t 0).toList == (rdOf ByteArray.empty names (ns.length : Int)).toList)) else none) else none) else (spec_JobParse.j1 k lines ns (ns.length : Int) t false)) else (spec_JobParse.j1 k lines ns (ns.length : Int) t false)) r) → Ev (fun k => spec_JobParse.l0 k lines ns (ns.length : Int)) r := by
      intro r h
      refine Ev.step (f := fun k => (spec_l1Words.f k l).bind fun t => if (ns.length : Int) < (names.length : Int) then (if (t.length : Int) = 2 then (if 0 < (t.length : Int) then (if (ns.length : Int) < (names.length : Int) then (spec_JobParse.j1 k lines ns (ns.length : Int) t ((rdOf ByteArray.empty t 0).toList == (rdOf ByteArray.empty names (ns.length : Int)).toList)) else none) else none) else (spec_JobParse.j1 k lines ns (ns.length : Int) t false)) else (spec_JobParse.j1 k lines ns (ns.length : Int) t false))
        (fun k => by
          simp only [spec_JobParse.l0, names_is, Option.bind_some, hr]
          rw [if_pos (by omega), if_pos (by omega)]) (Ev.bind hw (h _ rfl))
    refine goal _ (fun t ht => ?_)
    by_cases h10 : ns.length = 10
    · simp only [if_neg (show ¬ (ns.length : Int) < (names.length : Int) by omega)]
      refine Ev.congr' (j1_no lines ns ns.length (by omega) t) ?_
      rw [readJob, if_pos h10]
      rfl
    · have h9 : ns.length < 10 := by omega
      simp only [if_pos (show (ns.length : Int) < (names.length : Int) by omega)]
      have hrj : readJob (l :: ls) ns = match lineNum ns.length l with
          | none => .inl (ns.length + 1)
          | some n => readJob ls (ns ++ [n]) := by
        rw [readJob, if_neg h10]
        cases lineNum ns.length l <;> rfl
      by_cases h2 : (words l.data.toList).length = 2
      · obtain ⟨a, b, hab⟩ : ∃ a b, words l.data.toList = [a, b] := by
          match hx : words l.data.toList, h2 with
          | [a, b], _ => exact ⟨a, b, rfl⟩
        have ht2 : t = [toBA a, toBA b] := by rw [ht, hab]; rfl
        subst ht2
        simp only [if_pos (show (([toBA a, toBA b] : List ByteArray).length : Int) = 2 from rfl), if_pos (show 0 < (([toBA a, toBA b] : List ByteArray).length : Int) by simp)]
        have e0 : ((rdOf ByteArray.empty [toBA a, toBA b] 0).toList == (rdOf ByteArray.empty names (ns.length : Int)).toList) = decide (a = nm ns.length) := by
          rw [show rdOf ByteArray.empty [toBA a, toBA b] 0 = toBA a from rfl, toBA_toList, ByteArray.toList_eq]
          rw [show rdOf ByteArray.empty names (ns.length : Int) = nameOf ns.length from rfl]
          by_cases h : a = nm ns.length
          · rw [decide_eq_true h, beq_iff_eq]
            exact h
          · rw [decide_eq_false h, beq_eq_false_iff_ne]
            exact h
        have hln := line_two ns.length h9 l a b hab
        rw [e0]
        by_cases ha : a = nm ns.length
        · rw [decide_eq_true ha]
          rw [if_pos ha] at hln
          refine j1_yes lines ns ns.length h9 hn a b (by have := words_len _ _ _ hab; omega) _ (fun n hp => ?_) (fun hp => ?_)
          · rw [hrj, hln, hp]
            have h := ih (ns ++ [n]) (by rw [List.length_append, List.length_singleton, ← hd2]) (by simp; omega) (by simp; omega)
            rw [List.length_append, List.length_singleton, show ((ns.length + 1 : Nat) : Int) = (ns.length : Int) + 1 by omega] at h
            exact h
          · rw [hrj, hln, hp]
            rfl
        · rw [decide_eq_false ha]
          rw [if_neg ha] at hln
          refine Ev.congr' (j1_no lines ns ns.length (by omega) _) ?_
          rw [hrj, hln]
          rfl
      · have hln := line_other ns.length h9 l h2
        simp only [if_neg (show ¬ (t.length : Int) = 2 by rw [ht, List.length_map]; omega)]
        refine Ev.congr' (j1_no lines ns ns.length (by omega) _) ?_
        rw [hrj, hln]
        rfl
theorem job_ev (lines : List ByteArray) (hm : lines.length ≤ 4000000) : Ev (fun k => spec_JobParse.f k lines) (outT (jobRes lines)) := by
  rw [jobRes_fin]
  exact job_loop lines hm lines [] rfl (by simp) (by simp)
end Go.Proofs.YtgmkfhgebinfgaaDoor.Num
