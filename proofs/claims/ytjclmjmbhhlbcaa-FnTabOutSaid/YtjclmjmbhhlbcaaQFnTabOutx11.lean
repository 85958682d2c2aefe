/- Functions of the program as Lean functions, with their contracts, written by a program of mine over the kit's printer and in part by hand. No condition of its own. -/
import Derived.Test.YtjclmjmbhhlbcaaQFnTabOutx0
namespace Go.Proofs.Ytjclmjmbhhlbcaa.PFnTabOut
open Go.RowKit Go.Proofs.YtjclmjmbhhlbcaaW.PrintWords Go.Proofs.YtjclmjmbhhlbcaaW.PrintLast Go.Proofs.YtjclmjmbhhlbcaaW.PrintMore
attribute [local go_sem] max2_int min2_int max_two min_two max_three min_three max_four min_four   -- for this text's walks alone
set_option linter.unusedVariables false
set_option linter.unusedSimpArgs false


/-! ### impl_TabFind: function 43 -/
/-- A row is of a key and a window. -/
def impl_TabFind.is (key a b : Int) (x : S67) : Bool := decide (x.f0 = key) && (x.f1.f0 == a && (x.f1.f1 == b))
def impl_TabFind.f (l0 : List (S67)) (a1 : Int) (a2_0 : Int) (a2_1 : Int) : Option (Int × Int × Int × Int × Bool) :=
 some (match l0.find? (impl_TabFind.is a1 a2_0 a2_1) with | some x => (x.f2.f0, x.f2.f1, x.f2.f2, x.f2.f3, true) | none => (0, 0, 0, 0, false))
set_option maxHeartbeats 8000000 in
set_option maxRecDepth 100000 in
theorem impl_TabFind.of_calls (x0 x1 x2 x3 x4 x5 x6 key a b : Int) (w : World) :
  Calls Try.prog 58 #[.agg #[.int .i64 x0, .int .i64 x1, .int .i64 x2, .int .i64 x3, .int .i64 x4, .int .i64 x5, .int .i64 x6], .int .i64 key, .agg #[.int .i64 a, .int .i64 b]] w fun e w' => e = .returned (.bool (impl_TabFind.is key a b ⟨x0, ⟨x1, x2⟩, ⟨x3, x4, x5, x6⟩⟩)) ∧ Below w.heap.size w w' := by
 have hu1 := Try.underlying67
 have hu2 := Try.underlying26
 by_cases c : x0 = key
 ·have c0 : (x0 == key) = true := beq_iff_eq.mpr c
  have e : impl_TabFind.is key a b ⟨x0, ⟨x1, x2⟩, ⟨x3, x4, x5, x6⟩⟩ = (x1 == a && (x2 == b)) := by unfold impl_TabFind.is; simp only; rw [decide_eq_true c]; rfl
  rw [e]
  clear c e
  go_enter Try.func58, Try.ntmps58
  go_wp2
  all_goals
   go_ret
   exact ⟨by first | rfl | (simp_all; done) | (simp; done), by repeat (first | exact Below.refl _ _ | apply eA_)⟩
 ·have c0 : (x0 == key) = false := beq_eq_false_iff_ne.mpr c
  have e : impl_TabFind.is key a b ⟨x0, ⟨x1, x2⟩, ⟨x3, x4, x5, x6⟩⟩ = false := by unfold impl_TabFind.is; simp only; rw [decide_eq_false c]; rfl
  rw [e]
  clear c e
  go_enter Try.func58, Try.ntmps58
  go_wp2
  go_ret
  exact ⟨rfl, by repeat (first | exact Below.refl _ _ | apply eA_)⟩
set_option maxHeartbeats 8000000 in
set_option maxRecDepth 100000 in
theorem impl_TabFind.fn_calls (x : S67) (key a b : Int) (bk bw : Nat) (w : World) (hk : w.heap[bk]? = some (.cells #[.int .i64 key] 3 (0, 0))) (hw : w.heap[bw]? = some (.cells #[.int .i64 a, .int .i64 b] 26 (0, 0))) :
  Calls Try.prog 60 #[.agg #[.int .i64 x.f0, .int .i64 x.f1.f0, .int .i64 x.f1.f1, .int .i64 x.f2.f0, .int .i64 x.f2.f1, .int .i64 x.f2.f2, .int .i64 x.f2.f3], .pointer (some ⟨bk, 0, none⟩), .pointer (some ⟨bw, 0, none⟩)] w fun e w' => e = .returned (.bool (impl_TabFind.is key a b x)) ∧ Below w.heap.size w w' := by
 have hu1 := Try.underlying67
 have hu2 := Try.underlying26
 have f1 : ∀ o : Obj, (w.alloc o).cell? ⟨bk, 0, none⟩ = some (.int .i64 key) := fun o => (bC_ (bA_ hk o) 0).trans rfl
 have f2 : ∀ o : Obj, (w.alloc o).cell? ⟨bw, 0, none⟩ = some (.int .i64 a) := fun o => (bC_ (bA_ hw o) 0).trans rfl
 have f3 : ∀ o : Obj, (w.alloc o).cell? ⟨bw, 1, none⟩ = some (.int .i64 b) := fun o => (bC_ (bA_ hw o) 1).trans rfl
 clear hk hw
 go_enter Try.func60, Try.ntmps60
 go_wp2_with (go_at_call 58; refine (impl_TabFind.of_calls _ _ _ _ _ _ _ key a b _).mono ?_; rintro e w' ⟨rfl, hb⟩)
 go_ret
 exact ⟨rfl, below_step (by repeat (first | exact Below.refl _ _ | apply eA_)) hb⟩
/-- The place of the first row, or -1. -/
def impl_TabFind.Told (l0 : List (S67)) (key a b : Int) (e : Ending) : Prop :=
 (∃ j : Nat, e = .returned (.int .i64 j) ∧ j < l0.length ∧ l0.find? (impl_TabFind.is key a b) = l0[j]?) ∨ (e = .returned (.int .i64 (-1)) ∧ l0.find? (impl_TabFind.is key a b) = none)
set_option maxHeartbeats 8000000 in
set_option maxRecDepth 100000 in
theorem impl_TabFind.index_calls (A0 : Option Addr) (c0 : Nat) (l0 : List (S67)) (key a b : Int) (bk bw : Nat) (w : World) (hr0 : Kd.C k67 w A0 l0.length l0) (hc0 : l0.length ≤ c0) (hk : w.heap[bk]? = some (.cells #[.int .i64 key] 3 (0, 0))) (hw : w.heap[bw]? = some (.cells #[.int .i64 a, .int .i64 b] 26 (0, 0))) :
  Calls Try.prog 59 #[.slice A0 l0.length c0, .func (.func 60) #[] #[.pointer (some ⟨bk, 0, none⟩), .pointer (some ⟨bw, 0, none⟩)]] w fun e w' => impl_TabFind.Told l0 key a b e ∧ Below w.heap.size w w' := by
 have hlen : l0.length ≤ 9223372036854775807 := hr0.2.1
 have HR0 := Az_.mk hr0
 have HKK := Az_.mk hk
 have HWW := Az_.mk hw
 have HC0 := Az_.mk hc0
 have HB := Az_.mk (Below.refl w.heap.size w)
 clear hr0 hk hw hc0
 have hu1 := Try.underlying67
 have hu2 := Try.underlying26
 go_enter Try.func59, Try.ntmps59
 go_wp2
 go_loopw [8] (fun v8 wr => ∃ x8 : Int, v8 = .int .i64 x8 ∧ 0 ≤ x8 ∧ x8 ≤ l0.length ∧ Az_ ((l0.take x8.toNat).find? (impl_TabFind.is key a b) = none) ∧ Az_ (Below w.heap.size w wr)) (fun v8 _ => l0.length - (intOf v8).toNat)
 case atStart => exact ⟨0, rfl, Int.le_refl _, by omega, ⟨by simp⟩, HB⟩
 case round =>
  clear HB
  obtain ⟨x8, rfl, h0, h1, HF, HB⟩ := hrel
  by_cases c : x8 < (l0.length : Int)
  ·have hj : x8.toNat < l0.length := by omega
   have hrd : rd_T67 l0 x8 = l0[x8.toNat] := by simp [rd_T67, List.getD_eq_getElem?_getD, hj]
   have HJ := Az_.mk hj
   have HRD := Az_.mk (show rd_T67 l0 x8 = l0[x8.toNat]'(HJ.out) from hrd)
   have HW9 := Az_.mk (show wrap64 (x8 + 1) = x8 + 1 by unfold wrap64; omega)
   obtain ⟨ad1, e1, hx0, hx1, hx2, hx3, hx4, hx5, hx6⟩ := at_T67 HR0.out x8 h0 c
   cases e1
   have hc1 : decide (x8 < (l0.length : Int)) = true := decide_eq_true c
   replace hx0 := (HB.out.cell (World.block_lt_of_cell? w _ hx0)).trans hx0
   replace hx1 := (HB.out.cell (World.block_lt_of_cell? w _ hx1)).trans hx1
   replace hx2 := (HB.out.cell (World.block_lt_of_cell? w _ hx2)).trans hx2
   replace hx3 := (HB.out.cell (World.block_lt_of_cell? w _ hx3)).trans hx3
   replace hx4 := (HB.out.cell (World.block_lt_of_cell? w _ hx4)).trans hx4
   replace hx5 := (HB.out.cell (World.block_lt_of_cell? w _ hx5)).trans hx5
   replace hx6 := (HB.out.cell (World.block_lt_of_cell? w _ hx6)).trans hx6
   have HBK := Az_.mk (bB_ HKK.out HB.out)
   have HBW := Az_.mk (bB_ HWW.out HB.out)
   have hp : (0 ≤ x8) = True := eq_true h0
   have hq : (x8 < (l0.length : Int)) = True := eq_true c
   clear hrd hj h0 c
   cases hb : impl_TabFind.is key a b (rd_T67 l0 x8) with
   | true =>
    have HT := Az_.mk hb
    clear hb
    go_wp2_with (go_at_call 60; refine (impl_TabFind.fn_calls (rd_T67 l0 x8) key a b bk bw _ HBK.out HBW.out).mono ?_; rintro e w' ⟨he, hb⟩; rw [HT.out] at he; subst he; have HB2 := Az_.mk (below_step HB.out hb); clear hb)
    go_ret
    refine ⟨.inl ⟨x8.toNat, ?_, HJ.out, ?_⟩, HB2.out⟩
    ·rw [Int.toNat_of_nonneg (of_eq_true hp)]; rfl
    ·have hd : l0 = l0.take x8.toNat ++ (l0[x8.toNat]'HJ.out :: l0.drop (x8.toNat + 1)) := by rw [← List.drop_eq_getElem_cons HJ.out, List.take_append_drop]
     have ht := HT.out
     rw [HRD.out] at ht
     rw [List.getElem?_eq_getElem HJ.out]
     conv => lhs; rw [hd]
     rw [List.find?_append, HF.out, List.find?_cons_of_pos ht]
     rfl
   | false =>
    have HT := Az_.mk hb
    clear hb
    go_wp2_with (go_at_call 60; refine (impl_TabFind.fn_calls (rd_T67 l0 x8) key a b bk bw _ HBK.out HBW.out).mono ?_; rintro e w' ⟨he, hb⟩; rw [HT.out] at he; subst he; have HB2 := Az_.mk (below_step HB.out hb); clear hb)
    go_roundw
    case rel =>
     have h0 := of_eq_true hp
     have hj := HJ.out
     refine ⟨x8 + 1, ?_, by omega, by omega, ⟨?_⟩, HB2⟩
     ·first | rfl | rw [HW9.out]
     ·have ht := HT.out
      rw [HRD.out] at ht
      rw [show (x8 + 1).toNat = x8.toNat + 1 by omega, List.take_succ_eq_append_getElem HJ.out, List.find?_append, HF.out, List.find?_cons_of_neg (by simpa using ht)]
      rfl
    case measure =>
     have h0 := of_eq_true hp
     have hj := HJ.out
     simp [intOf, HW9.out]
     omega
  ·have hc1 : decide (x8 < (l0.length : Int)) = false := decide_eq_false c
   go_wp2
   go_ret
   refine ⟨.inr ⟨rfl, ?_⟩, HB.out⟩
   have hf := HF.out
   rw [List.take_of_length_le (by omega)] at hf
   exact hf
set_option maxHeartbeats 8000000 in
set_option maxRecDepth 100000 in
theorem impl_TabFind.calls (A0 : Option Addr) (c0 : Nat) (l0 : List (S67)) (a1 : Int) (a2_0 : Int) (a2_1 : Int) (r1 : Int) (r2 : Int) (r3 : Int) (r4 : Int) (r5 : Bool) (w : World) (hr0 : Kd.C k67 w A0 l0.length l0) (hc0 : l0.length ≤ c0) (h : impl_TabFind.f l0 a1 a2_0 a2_1 = some (r1, r2, r3, r4, r5)) :
  Calls Try.prog 43 #[.slice A0 l0.length c0, .int .i64 a1, .agg #[.int .i64 a2_0, .int .i64 a2_1]] w fun e w' => e = .returned (.tuple #[.agg #[.int .i64 r1, .int .i64 r2, .int .i64 r3, .int .i64 r4], .bool r5]) ∧ Below w.heap.size w w' := by
 have hlen : l0.length ≤ 9223372036854775807 := hr0.2.1
 have hmf : ∀ (fn : Fn) (first cap : Array Value) (w : World), (Instr.makeFunc fn first cap).run Try.prog w = .ok (.func fn first cap) w := fun _ _ _ _ => rfl
 have hu1 := Try.underlying67
 have hu2 := Try.underlying26
 have hu3 := Try.underlying34
 have HR0 := Az_.mk hr0
 have HC0 := Az_.mk hc0
 have H := Az_.mk h
 clear hr0 hc0 h
 go_enter Try.func43, Try.ntmps43
 go_wp2_with fail
 have HB0 := Az_.mk (show Below w.heap.size w (((w.alloc (.cells #[.int .i64 a1] 3)).alloc (.cells #[.int .i64 a2_0, .int .i64 a2_1] 26)).alloc (.cells #[.int .i64 0, .int .i64 0, .int .i64 0, .int .i64 0] 34)) from by repeat (first | exact Below.refl _ _ | apply eA_))
 have HA0 := Az_.mk (show (((w.alloc (.cells #[.int .i64 a1] 3)).alloc (.cells #[.int .i64 a2_0, .int .i64 a2_1] 26)).alloc (.cells #[.int .i64 0, .int .i64 0, .int .i64 0, .int .i64 0] 34)).heap[w.heap.size + 1 + 1]? = some (.cells #[.int .i64 0, .int .i64 0, .int .i64 0, .int .i64 0] 34 (0, 0)) from by
  have h := heap_alloc_new ((w.alloc (.cells #[.int .i64 a1] 3)).alloc (.cells #[.int .i64 a2_0, .int .i64 a2_1] 26)) (.cells #[.int .i64 0, .int .i64 0, .int .i64 0, .int .i64 0] 34)
  simpa using h)
 have HK0 := Az_.mk (show (((w.alloc (.cells #[.int .i64 a1] 3)).alloc (.cells #[.int .i64 a2_0, .int .i64 a2_1] 26)).alloc (.cells #[.int .i64 0, .int .i64 0, .int .i64 0, .int .i64 0] 34)).heap[w.heap.size]? = some (.cells #[.int .i64 a1] 3 (0, 0)) from bA_ (bA_ (heap_alloc_new w _) _) _)
 have HW0 := Az_.mk (show (((w.alloc (.cells #[.int .i64 a1] 3)).alloc (.cells #[.int .i64 a2_0, .int .i64 a2_1] 26)).alloc (.cells #[.int .i64 0, .int .i64 0, .int .i64 0, .int .i64 0] 34)).heap[w.heap.size + 1]? = some (.cells #[.int .i64 a2_0, .int .i64 a2_1] 26 (0, 0)) from by
  have h := heap_alloc_new (w.alloc (.cells #[.int .i64 a1] 3)) (.cells #[.int .i64 a2_0, .int .i64 a2_1] 26)
  exact bA_ (by simpa using h) _)
 refine (impl_TabFind.index_calls A0 c0 l0 a1 a2_0 a2_1 w.heap.size (w.heap.size + 1) _ (Kd.C_below HR0.out HB0.out) HC0.out HK0.out HW0.out).mono ?_
 rintro e w1 ⟨ht, hb⟩
 have HB := Az_.mk (below_step HB0.out hb)
 have HBA := Az_.mk (bB_ HA0.out hb)
 clear hb HK0 HW0 HB0 HA0
 have hg : w.heap.size ≤ w.heap.size + 1 + 1 := by omega
 have hcz0 : w1.cell? ⟨w.heap.size + 1 + 1, 0, none⟩ = some (.int .i64 0) := (bC_ HBA.out 0).trans rfl
 have hcz1 : w1.cell? ⟨w.heap.size + 1 + 1, 1, none⟩ = some (.int .i64 0) := (bC_ HBA.out 1).trans rfl
 have hcz2 : w1.cell? ⟨w.heap.size + 1 + 1, 2, none⟩ = some (.int .i64 0) := (bC_ HBA.out 2).trans rfl
 have hcz3 : w1.cell? ⟨w.heap.size + 1 + 1, 3, none⟩ = some (.int .i64 0) := (bC_ HBA.out 3).trans rfl
 have hfz0 := bF_ HBA.out 0
 have hfz1 := bF_ HBA.out 1
 have hfz2 := bF_ HBA.out 2
 have hfz3 := bF_ HBA.out 3
 have HG := Az_.mk hg
 clear hg
 unfold impl_TabFind.Told at ht
 rcases ht with ⟨j, rfl, hj, hf⟩ | ⟨rfl, hf⟩
 ·have hH := H.out
  unfold impl_TabFind.f at hH
  rw [hf, List.getElem?_eq_getElem hj] at hH
  have hrd : rd_T67 l0 (j : Int) = l0[j] := by simp [rd_T67, List.getD_eq_getElem?_getD, hj]
  simp only [Option.some.injEq, Prod.mk.injEq, ← hrd] at hH
  obtain ⟨rfl, rfl, rfl, rfl, rfl⟩ := hH
  obtain ⟨ad1, e1, hx0, hx1, hx2, hx3, hx4, hx5, hx6⟩ := at_T67 HR0.out (j : Int) (by omega) (by omega)
  cases e1
  replace hx3 := (HB.out.cell (World.block_lt_of_cell? w _ hx3)).trans hx3
  replace hx4 := (HB.out.cell (World.block_lt_of_cell? w _ hx4)).trans hx4
  replace hx5 := (HB.out.cell (World.block_lt_of_cell? w _ hx5)).trans hx5
  replace hx6 := (HB.out.cell (World.block_lt_of_cell? w _ hx6)).trans hx6
  clear hx0 hx1 hx2 H hf hrd
  have hc0 : decide ((j : Int) < 0) = false := decide_eq_false (by omega)
  have hp : (0 ≤ (j : Int)) = True := eq_true (by omega)
  have hq : ((j : Int) < (l0.length : Int)) = True := eq_true (by omega)
  generalize hjj : (j : Int) = jj at *
  have HJJ := Az_.mk hjj
  clear hj hjj
  go_wp2
  refine bodyPost_ret (results_ct rfl _ _ (w.heap.size + 1 + 1) 34 #[.int .i64 ((rd_T67 l0 jj).f2.f0), .int .i64 ((rd_T67 l0 jj).f2.f1), .int .i64 ((rd_T67 l0 jj).f2.f2), .int .i64 ((rd_T67 l0 jj).f2.f3)] (0, 0) _ rfl (by refine bP_ (cs := #[.int .i64 ((rd_T67 l0 jj).f2.f0), .int .i64 ((rd_T67 l0 jj).f2.f1), .int .i64 ((rd_T67 l0 jj).f2.f2), .int .i64 0]) ?_ 3 _ rfl; refine bP_ (cs := #[.int .i64 ((rd_T67 l0 jj).f2.f0), .int .i64 ((rd_T67 l0 jj).f2.f1), .int .i64 0, .int .i64 0]) ?_ 2 _ rfl; refine bP_ (cs := #[.int .i64 ((rd_T67 l0 jj).f2.f0), .int .i64 0, .int .i64 0, .int .i64 0]) ?_ 1 _ rfl; refine bP_ (cs := #[.int .i64 0, .int .i64 0, .int .i64 0, .int .i64 0]) ?_ 0 _ rfl; exact HBA.out) Try.underlying34 rfl (by kernel_rfl)) rfl ?_
  exact ⟨by first | rfl | (rw [HJJ.out]; rfl) | (rw [HJJ.out]) | (simp [HJJ.out]; done), by repeat (first | (with_reducible first | exact HB.out | refine eS_ ?_ HG.out) | exact HB.out)⟩
 ·have hH := H.out
  unfold impl_TabFind.f at hH
  rw [hf] at hH
  simp only [Option.some.injEq, Prod.mk.injEq] at hH
  obtain ⟨rfl, rfl, rfl, rfl, rfl⟩ := hH
  clear H hf
  go_wp2
  refine bodyPost_ret (results_ct rfl _ _ (w.heap.size + 1 + 1) 34 #[.int .i64 0, .int .i64 0, .int .i64 0, .int .i64 0] (0, 0) _ rfl (by refine bP_ (cs := #[.int .i64 0, .int .i64 0, .int .i64 0, .int .i64 0]) ?_ 3 _ rfl; refine bP_ (cs := #[.int .i64 0, .int .i64 0, .int .i64 0, .int .i64 0]) ?_ 2 _ rfl; refine bP_ (cs := #[.int .i64 0, .int .i64 0, .int .i64 0, .int .i64 0]) ?_ 1 _ rfl; refine bP_ (cs := #[.int .i64 0, .int .i64 0, .int .i64 0, .int .i64 0]) ?_ 0 _ rfl; exact HBA.out) Try.underlying34 rfl (by kernel_rfl)) rfl ?_
  exact ⟨by first | rfl | (simp; done), by repeat (first | (with_reducible first | exact HB.out | refine eS_ ?_ HG.out) | exact HB.out)⟩

/-! ### impl_in: function 50 -/
def impl_in.f (a0 : Int) (a1 : Int) (a2 : Int) : Option (Bool) := if a0 ≥ a1 then (some (decide (a0 ≤ a2))) else (some false)
set_option maxHeartbeats 8000000 in
set_option maxRecDepth 100000 in
theorem impl_in.calls (a0 : Int) (a1 : Int) (a2 : Int) (r : Bool) (w : World) (h : impl_in.f a0 a1 a2 = some r) :
  Calls Try.prog 50 #[.int .i64 a0, .int .i64 a1, .int .i64 a2] w fun e w' => e = .returned (.bool r) ∧ Drawn0 w w' := by
 have H : (if a0 ≥ a1 then (some (decide (a0 ≤ a2))) else (some false)) = some r := h
 clear h
 by_cases c4 : a0 ≥ a1
 ·rw [if_pos c4] at H
  have c4b0 : decide (a1 ≤ a0) = true := decide_eq_true c4
  clear c4
  obtain rfl := Option.some.inj H
  go_enter Try.func50, Try.ntmps50
  go_wp2
  go_ret
  exact ⟨by first | rfl | (simp; done) | (simp [*]; done), by repeat (first | exact Drawn0.refl _ | apply Drawn0.step)⟩
 ·rw [if_neg c4] at H
  have c4b0 : decide (a1 ≤ a0) = false := decide_eq_false c4
  clear c4
  obtain rfl := Option.some.inj H
  go_enter Try.func50, Try.ntmps50
  go_wp2
  go_ret
  exact ⟨by first | rfl | (simp; done) | (simp [*]; done), by repeat (first | exact Drawn0.refl _ | apply Drawn0.step)⟩

/-! ### impl_WinOk: function 19 -/
def impl_WinOk.f (a0_0 : Int) (a0_1 : Int) : Option (Bool) := (impl_in.f a0_0 0 60).bind fun t369 => (if t369 = true then ((impl_in.f a0_1 (wrap64 (a0_0 + 1)) 120).bind fun t370 => (some t370)) else (some false))
set_option maxHeartbeats 8000000 in
set_option maxRecDepth 100000 in
theorem impl_WinOk.calls (a0_0 : Int) (a0_1 : Int) (r : Bool) (w : World) (h : impl_WinOk.f a0_0 a0_1 = some r) :
  Calls Try.prog 19 #[.agg #[.int .i64 a0_0, .int .i64 a0_1]] w fun e w' => e = .returned (.bool r) ∧ Below w.heap.size w w' := by
 have hu26 := Try.underlying26
 have HB := Az_.mk (Below.refl w.heap.size w)
 have H : ((impl_in.f a0_0 0 60).bind fun t369 => (if t369 = true then ((impl_in.f a0_1 (wrap64 (a0_0 + 1)) 120).bind fun t370 => (some t370)) else (some false))) = some r := h
 clear h
 replace H := Option.bind_eq_some_iff.mp H
 obtain ⟨t369, A20, H⟩ := H
 replace H : (if t369 = true then ((impl_in.f a0_1 (wrap64 (a0_0 + 1)) 120).bind fun t370 => (some t370)) else (some false)) = some r := H
 have A2 := Az_.mk A20
 clear A20
 by_cases c3 : t369 = true
 ·subst c3
  have H1 : ((impl_in.f a0_1 (wrap64 (a0_0 + 1)) 120).bind fun t370 => (some t370)) = some r := by rw [if_pos rfl] at H; exact H
  clear H
  have H := H1
  clear H1
  replace H := Option.bind_eq_some_iff.mp H
  obtain ⟨t370, A40, H⟩ := H
  replace H : (some t370) = some r := H
  have A4 := Az_.mk A40
  clear A40
  obtain rfl := Option.some.inj H
  go_enter Try.func19, Try.ntmps19
  go_wp2_with (first | ((with_reducible refine gate_dst (N := 1) rfl ?_); refine box_event ?hg (N := 1) ?hd (cs := #[.int .i64 a0_0, .int .i64 a0_1]) (t := 26) ?hr ?_; (case hd => rfl); (case hg => rfl); (case hr => first | (go_simp; done) | (go_simp; rfl)); intro gb368 hg w5 hbox hb; have n0_ := Az_.mk (below_step (by repeat (first | (with_reducible first | exact HB.out | apply eA_ | apply pN_ | apply eD_) | exact HB.out)) hb); have n1_ := Az_.mk (hbox); have n2_ := Az_.mk ((by rw [hg]; exact (below_size (by repeat (first | (with_reducible first | exact HB.out | apply eA_ | apply pN_ | apply eD_) | exact HB.out))) : w.heap.size ≤ gb368)); have n3_ := Az_.mk ((by rw [hg]; exact (below_size (by repeat (first | (with_reducible first | exact HB.out | apply eA_ | apply pN_ | apply eD_) | exact HB.out))) : w.heap.size ≤ gb368)); clear HB; have HB := n0_; have BK368 := n1_; have GW368 := n2_; have GE368 := n3_; clear n0_ n1_ n2_ n3_; clear hb hbox hg; have hcz6_0 : w5.cell? ⟨gb368, 0, none⟩ = some (.int .i64 a0_0) := (bC_ BK368.out 0).trans rfl; have hcz6_1 : w5.cell? ⟨gb368, 1, none⟩ = some (.int .i64 a0_1) := (bC_ BK368.out 1).trans rfl; have hfz6_0 := bF_ BK368.out 0; have hfz6_1 := bF_ BK368.out 1) | ((with_reducible refine gate_callee (f := 50) rfl ?_); refine goesL_ (some 5) rfl rfl Try.func50 (by kernel_rfl) rfl #[.int .i64 a0_0, .int .i64 0, .int .i64 60] rfl (by (try simp only [List.map_toArray, List.map_cons, List.map_nil]); first | done | rfl | (simp only [List.length_drop, List.length_take]; rfl)) ?_; (with_reducible refine (impl_in.calls a0_0 0 60 true _ A2.out).mono ?_); rintro e w' ⟨rfl, ⟨nd, rfl⟩⟩; refine ⟨_, rfl, ?_⟩) | (go_at_call 50; (with_reducible refine (impl_in.calls a0_1 (wrap64 (a0_0 + 1)) 120 t370 _ A4.out).mono ?_); rintro e w' ⟨rfl, ⟨nd, rfl⟩⟩))
  go_ret
  exact ⟨by first | rfl | (simp [errW_none, errW_some] <;> rfl) | (simp [*, errW_none, errW_some] <;> rfl), by repeat (first | (with_reducible first | exact HB.out | apply eA_ | apply pN_ | apply eD_ | refine eS_ ?_ GE368.out) | exact HB.out)⟩
 ·replace c3 := Bool.eq_false_iff.mpr c3
  subst c3
  have H1 : (some false) = some r := by rw [if_neg (show ¬ (false = true) by decide)] at H; exact H
  clear H
  have H := H1
  clear H1
  obtain rfl := Option.some.inj H
  go_enter Try.func19, Try.ntmps19
  go_wp2_with (first | ((with_reducible refine gate_dst (N := 1) rfl ?_); refine box_event ?hg (N := 1) ?hd (cs := #[.int .i64 a0_0, .int .i64 a0_1]) (t := 26) ?hr ?_; (case hd => rfl); (case hg => rfl); (case hr => first | (go_simp; done) | (go_simp; rfl)); intro gb368 hg w7 hbox hb; have n0_ := Az_.mk (below_step (by repeat (first | (with_reducible first | exact HB.out | apply eA_ | apply pN_ | apply eD_) | exact HB.out)) hb); have n1_ := Az_.mk (hbox); have n2_ := Az_.mk ((by rw [hg]; exact (below_size (by repeat (first | (with_reducible first | exact HB.out | apply eA_ | apply pN_ | apply eD_) | exact HB.out))) : w.heap.size ≤ gb368)); have n3_ := Az_.mk ((by rw [hg]; exact (below_size (by repeat (first | (with_reducible first | exact HB.out | apply eA_ | apply pN_ | apply eD_) | exact HB.out))) : w.heap.size ≤ gb368)); clear HB; have HB := n0_; have BK368 := n1_; have GW368 := n2_; have GE368 := n3_; clear n0_ n1_ n2_ n3_; clear hb hbox hg; have hcz8_0 : w7.cell? ⟨gb368, 0, none⟩ = some (.int .i64 a0_0) := (bC_ BK368.out 0).trans rfl; have hcz8_1 : w7.cell? ⟨gb368, 1, none⟩ = some (.int .i64 a0_1) := (bC_ BK368.out 1).trans rfl; have hfz8_0 := bF_ BK368.out 0; have hfz8_1 := bF_ BK368.out 1) | ((with_reducible refine gate_callee (f := 50) rfl ?_); refine goesL_ (some 5) rfl rfl Try.func50 (by kernel_rfl) rfl #[.int .i64 a0_0, .int .i64 0, .int .i64 60] rfl (by (try simp only [List.map_toArray, List.map_cons, List.map_nil]); first | done | rfl | (simp only [List.length_drop, List.length_take]; rfl)) ?_; (with_reducible refine (impl_in.calls a0_0 0 60 false _ A2.out).mono ?_); rintro e w' ⟨rfl, ⟨nd, rfl⟩⟩; refine ⟨_, rfl, ?_⟩))
  go_ret
  exact ⟨by first | rfl | (simp [errW_none, errW_some] <;> rfl) | (simp [*, errW_none, errW_some] <;> rfl), by repeat (first | (with_reducible first | exact HB.out | apply eA_ | apply pN_ | apply eD_ | refine eS_ ?_ GE368.out) | exact HB.out)⟩

/-! ### laws_frOk: function 46 -/
def laws_frOk.f  : Option (Bool) := (impl_WinOk.f 0 1).bind fun t371 => (some t371)
set_option maxHeartbeats 8000000 in
set_option maxRecDepth 100000 in
theorem laws_frOk.calls  (r : Bool) (w : World) (h : laws_frOk.f  = some r) :
  Calls Try.prog 46 #[] w fun e w' => e = .returned (.bool r) ∧ Below w.heap.size w w' := by
 have hu26 := Try.underlying26
 have HB := Az_.mk (Below.refl w.heap.size w)
 have H : ((impl_WinOk.f 0 1).bind fun t371 => (some t371)) = some r := h
 clear h
 replace H := Option.bind_eq_some_iff.mp H
 obtain ⟨t371, A10, H⟩ := H
 replace H : (some t371) = some r := H
 have A1 := Az_.mk A10
 clear A10
 obtain rfl := Option.some.inj H
 go_enter Try.func46, Try.ntmps46
 go_wp2_with (first | ((with_reducible refine gate_callee (f := 19) rfl ?_); refine goesL_ (some 2) rfl rfl Try.func19 (by kernel_rfl) rfl #[.agg #[.int .i64 0, .int .i64 1]] rfl (by (try simp only [List.map_toArray, List.map_cons, List.map_nil]); first | done | rfl | (simp only [List.length_drop, List.length_take]; rfl)) ?_; (with_reducible refine (impl_WinOk.calls 0 1 t371 _ A1.out).mono ?_); rintro e w2 ⟨rfl, hb⟩; refine ⟨_, rfl, ?_⟩; have n0_ := Az_.mk (below_step (by repeat (first | (with_reducible first | exact HB.out | apply eA_ | apply pN_ | apply eD_) | exact HB.out)) hb); clear HB; have HB := n0_; clear n0_; (try clear hb); (try clear hb2); (try clear hk); (try clear hi)))
 go_ret
 exact ⟨by first | rfl | (simp [errW_none, errW_some] <;> rfl) | (simp [*, errW_none, errW_some] <;> rfl), by repeat (first | (with_reducible first | exact HB.out | apply eA_ | apply pN_ | apply eD_) | exact HB.out)⟩

end Go.Proofs.Ytjclmjmbhhlbcaa.PFnTabOut
-- thin
