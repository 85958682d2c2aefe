/- Functions of the program as Lean functions, with their contracts, written by a program of mine over the kit's printer and in part by hand. No condition of its own. -/
import Derived.Test.YtjclmjmbhhlbcaaQFnTabOutx0
import Derived.Test.YtjclmjmbhhlbcaaQFnTabOutx4
namespace Go.Proofs.Ytjclmjmbhhlbcaa.PFnTabOut
open Go.RowKit Go.Proofs.YtjclmjmbhhlbcaaW.PrintWords Go.Proofs.YtjclmjmbhhlbcaaW.PrintLast Go.Proofs.YtjclmjmbhhlbcaaW.PrintMore
attribute [local go_sem] max2_int min2_int max_two min_two max_three min_three max_four min_four   -- for this text's walks alone
set_option linter.unusedVariables false
set_option linter.unusedSimpArgs false

/-! ### spec_l20Win: function 67 -/
def spec_l20Win.f (k : Nat) (s0_0 : List Int) (s0_1 : Int) (a1 : Int) : Option (Int × Int × Int) := (spec_l20Rd_pick.f k s0_0 s0_1 40).bind fun bt217 => ((some (([0, 5, 20, 60, bt217.1] : List Int) : List Int)).bind fun y219 => ((spec_l20Rd_pick.f k s0_0 bt217.2 5).bind fun bt222 => (if 0 ≤ bt222.1 then (if bt222.1 < (y219.length : Int) then ((some (([1, 5, 10, 20] : List Int) : List Int)).bind fun y226 => ((spec_l20Rd_pick.f k s0_0 bt222.2 4).bind fun bt229 => (if 0 ≤ bt229.1 then (if bt229.1 < (y226.length : Int) then ((spec_l20Rd_pick.f k s0_0 bt229.2 a1).bind fun bt232 => (if bt232.1 = 0 then ((spec_l20Rd_pick.f k s0_0 bt232.2 2).bind fun bt234 => (if bt234.1 = 0 then ((some (([(-1), 61, wrap64 ((rd y219 bt222.1) + (rd y226 bt229.1))] : List Int) : List Int)).bind fun y236 => ((spec_l20Rd_pick.f k s0_0 bt234.2 3).bind fun bt239 => (if 0 ≤ bt239.1 then (if bt239.1 < (y236.length : Int) then (some (rd y236 bt239.1, wrap64 ((rd y219 bt222.1) + (rd y226 bt229.1)), bt239.2)) else (none)) else (none)))) else ((some (([121, 120, 0, (-1)] : List Int) : List Int)).bind fun y242 => ((spec_l20Rd_pick.f k s0_0 bt234.2 4).bind fun bt245 => (if 0 ≤ bt245.1 then (if bt245.1 < (y242.length : Int) then (some (rd y219 bt222.1, rd y242 bt245.1, bt245.2)) else (none)) else (none)))))) else (some (rd y219 bt222.1, wrap64 ((rd y219 bt222.1) + (rd y226 bt229.1)), bt232.2)))) else (none)) else (none)))) else (none)) else (none))))
theorem spec_l20Win.mono : ∀ a0 a1 a2 k, LeO (spec_l20Win.f k a0 a1 a2) (spec_l20Win.f (k + 1) a0 a1 a2) := by
 intro a0 a1 a2 k
 unfold spec_l20Win.f
 repeat' first
   | (with_reducible exact spec_l20Rd_pick.mono _ _ _ _)
   | (with_reducible exact LeO.refl _)
   | (with_reducible exact LeO.none _)
   | (with_reducible refine LeO.ite ?_ ?_)
   | (with_reducible refine LeO.bind ?_ (fun _ => ?_))
   | exact spec_l20Rd_pick.mono _ _ _ _
   | exact LeO.none _
   | refine LeO.ite ?_ ?_
   | refine LeO.bind ?_ (fun _ => ?_)
def spec_l20Win.T2 : Bool × List (List Nat × List Nat) := (true, [([], []), ([0], [0]), ([], []), ([], []), ([3], [3]), ([2, 4], [2, 4]), ([5], [5]), ([1, 6], [1, 6]), ([0, 1, 2, 3, 4, 5, 6, 7], []), ([8, 7, 4, 0, 1, 2, 3, 4, 5, 6, 7], [7, 8])])
def spec_l20Win.B2 : List Nat := [0, 1, 0, 0, 8, 28, 60, 127, 255, 511]
theorem spec_l20Win.tab2 : rtab .any (opsOf Try.f67 2) = spec_l20Win.T2 := by kernel_rfl
theorem spec_l20Win.bits2 : waitsOk spec_l20Win.T2.2 spec_l20Win.B2 = true := by kernel_rfl
def spec_l20Win.T5 : Bool × List (List Nat × List Nat) := (true, [([], []), ([0], [0]), ([1], [1]), ([], []), ([3], [3]), ([2, 4], [2, 4]), ([5], [5]), ([0, 1, 2, 3, 4, 5, 6], []), ([7, 6, 4, 0, 1, 2, 3, 4, 5, 6], [6, 7])])
def spec_l20Win.B5 : List Nat := [0, 1, 3, 0, 8, 31, 63, 127, 255]
theorem spec_l20Win.tab5 : rtab .any (opsOf Try.f67 5) = spec_l20Win.T5 := by kernel_rfl
theorem spec_l20Win.bits5 : waitsOk spec_l20Win.T5.2 spec_l20Win.B5 = true := by kernel_rfl
set_option maxHeartbeats 8000000 in
set_option maxRecDepth 100000 in
theorem spec_l20Win.calls (k : Nat) (g : Nat) (s0_0 : List Int) (s0_1 : Int) (a1 : Int) (r1 : Int) (r2 : Int) (r3 : Int) (w0 w : World) (hI : I81_ w0 w g s0_0 s0_1) (hB : Below w0.heap.size w0 w) (h : spec_l20Win.f k s0_0 s0_1 a1 = some (r1, r2, r3)) :
  Calls Try.prog 67 #[.pointer (some ⟨g, 0, none⟩), .int .i64 a1] w fun e w' => e = .returned (.agg #[.int .i64 r1, .int .i64 r2]) ∧ I81_ w0 w' g s0_0 r3 ∧ Below w0.heap.size w0 w' ∧ KeepBut w w' g none := by
 have hu26 := Try.underlying26
 have HI0 := Az_.mk hI
 have HG0 := Az_.mk (show g < w.heap.size from hI.lt)
 have HK := Az_.mk (KeepBut.refl w g none)
 have HL := Az_.mk hB.size
 clear hI
 have HW0 := Az_.mk hB.size
 have HB := Az_.mk hB
 clear hB
 have H : ((spec_l20Rd_pick.f k s0_0 s0_1 40).bind fun bt217 => ((some (([0, 5, 20, 60, bt217.1] : List Int) : List Int)).bind fun y219 => ((spec_l20Rd_pick.f k s0_0 bt217.2 5).bind fun bt222 => (if 0 ≤ bt222.1 then (if bt222.1 < (y219.length : Int) then ((some (([1, 5, 10, 20] : List Int) : List Int)).bind fun y226 => ((spec_l20Rd_pick.f k s0_0 bt222.2 4).bind fun bt229 => (if 0 ≤ bt229.1 then (if bt229.1 < (y226.length : Int) then ((spec_l20Rd_pick.f k s0_0 bt229.2 a1).bind fun bt232 => (if bt232.1 = 0 then ((spec_l20Rd_pick.f k s0_0 bt232.2 2).bind fun bt234 => (if bt234.1 = 0 then ((some (([(-1), 61, wrap64 ((rd y219 bt222.1) + (rd y226 bt229.1))] : List Int) : List Int)).bind fun y236 => ((spec_l20Rd_pick.f k s0_0 bt234.2 3).bind fun bt239 => (if 0 ≤ bt239.1 then (if bt239.1 < (y236.length : Int) then (some (rd y236 bt239.1, wrap64 ((rd y219 bt222.1) + (rd y226 bt229.1)), bt239.2)) else (none)) else (none)))) else ((some (([121, 120, 0, (-1)] : List Int) : List Int)).bind fun y242 => ((spec_l20Rd_pick.f k s0_0 bt234.2 4).bind fun bt245 => (if 0 ≤ bt245.1 then (if bt245.1 < (y242.length : Int) then (some (rd y219 bt222.1, rd y242 bt245.1, bt245.2)) else (none)) else (none)))))) else (some (rd y219 bt222.1, wrap64 ((rd y219 bt222.1) + (rd y226 bt229.1)), bt232.2)))) else (none)) else (none)))) else (none)) else (none))))) = some (r1, r2, r3) := h
 clear h
 replace H := Option.bind_eq_some_iff.mp H
 obtain ⟨⟨t217, t218⟩, A30, H⟩ := H
 replace H : ((some (([0, 5, 20, 60, t217] : List Int) : List Int)).bind fun y219 => ((spec_l20Rd_pick.f k s0_0 t218 5).bind fun bt222 => (if 0 ≤ bt222.1 then (if bt222.1 < (y219.length : Int) then ((some (([1, 5, 10, 20] : List Int) : List Int)).bind fun y226 => ((spec_l20Rd_pick.f k s0_0 bt222.2 4).bind fun bt229 => (if 0 ≤ bt229.1 then (if bt229.1 < (y226.length : Int) then ((spec_l20Rd_pick.f k s0_0 bt229.2 a1).bind fun bt232 => (if bt232.1 = 0 then ((spec_l20Rd_pick.f k s0_0 bt232.2 2).bind fun bt234 => (if bt234.1 = 0 then ((some (([(-1), 61, wrap64 ((rd y219 bt222.1) + (rd y226 bt229.1))] : List Int) : List Int)).bind fun y236 => ((spec_l20Rd_pick.f k s0_0 bt234.2 3).bind fun bt239 => (if 0 ≤ bt239.1 then (if bt239.1 < (y236.length : Int) then (some (rd y236 bt239.1, wrap64 ((rd y219 bt222.1) + (rd y226 bt229.1)), bt239.2)) else (none)) else (none)))) else ((some (([121, 120, 0, (-1)] : List Int) : List Int)).bind fun y242 => ((spec_l20Rd_pick.f k s0_0 bt234.2 4).bind fun bt245 => (if 0 ≤ bt245.1 then (if bt245.1 < (y242.length : Int) then (some (rd y219 bt222.1, rd y242 bt245.1, bt245.2)) else (none)) else (none)))))) else (some (rd y219 bt222.1, wrap64 ((rd y219 bt222.1) + (rd y226 bt229.1)), bt232.2)))) else (none)) else (none)))) else (none)) else (none)))) = some (r1, r2, r3) := H
 have A3 := Az_.mk A30
 clear A30
 obtain ⟨y219, hy219⟩ : ∃ y_ : List Int, y_ = (([0, 5, 20, 60, t217] : List Int)) := ⟨_, rfl⟩
 replace H : ((spec_l20Rd_pick.f k s0_0 t218 5).bind fun bt222 => (if 0 ≤ bt222.1 then (if bt222.1 < (y219.length : Int) then ((some (([1, 5, 10, 20] : List Int) : List Int)).bind fun y226 => ((spec_l20Rd_pick.f k s0_0 bt222.2 4).bind fun bt229 => (if 0 ≤ bt229.1 then (if bt229.1 < (y226.length : Int) then ((spec_l20Rd_pick.f k s0_0 bt229.2 a1).bind fun bt232 => (if bt232.1 = 0 then ((spec_l20Rd_pick.f k s0_0 bt232.2 2).bind fun bt234 => (if bt234.1 = 0 then ((some (([(-1), 61, wrap64 ((rd y219 bt222.1) + (rd y226 bt229.1))] : List Int) : List Int)).bind fun y236 => ((spec_l20Rd_pick.f k s0_0 bt234.2 3).bind fun bt239 => (if 0 ≤ bt239.1 then (if bt239.1 < (y236.length : Int) then (some (rd y236 bt239.1, wrap64 ((rd y219 bt222.1) + (rd y226 bt229.1)), bt239.2)) else (none)) else (none)))) else ((some (([121, 120, 0, (-1)] : List Int) : List Int)).bind fun y242 => ((spec_l20Rd_pick.f k s0_0 bt234.2 4).bind fun bt245 => (if 0 ≤ bt245.1 then (if bt245.1 < (y242.length : Int) then (some (rd y219 bt222.1, rd y242 bt245.1, bt245.2)) else (none)) else (none)))))) else (some (rd y219 bt222.1, wrap64 ((rd y219 bt222.1) + (rd y226 bt229.1)), bt232.2)))) else (none)) else (none)))) else (none)) else (none))) = some (r1, r2, r3) := by first | (rw [hy219]; with_reducible exact H) | (have H2_ := (Option.bind_some _ _).symm.trans H; rw [hy219]; with_reducible exact H2_) | (have H2_ := (Option.bind_some _ _).symm.trans H; with_reducible exact H2_) | with_reducible exact H | (rw [hy219]; exact H) | exact H
 have Ny219 := Az_.mk hy219
 clear hy219
 replace H := Option.bind_eq_some_iff.mp H
 obtain ⟨⟨t222, t223⟩, A40, H⟩ := H
 replace H : (if 0 ≤ t222 then (if t222 < (y219.length : Int) then ((some (([1, 5, 10, 20] : List Int) : List Int)).bind fun y226 => ((spec_l20Rd_pick.f k s0_0 t223 4).bind fun bt229 => (if 0 ≤ bt229.1 then (if bt229.1 < (y226.length : Int) then ((spec_l20Rd_pick.f k s0_0 bt229.2 a1).bind fun bt232 => (if bt232.1 = 0 then ((spec_l20Rd_pick.f k s0_0 bt232.2 2).bind fun bt234 => (if bt234.1 = 0 then ((some (([(-1), 61, wrap64 ((rd y219 t222) + (rd y226 bt229.1))] : List Int) : List Int)).bind fun y236 => ((spec_l20Rd_pick.f k s0_0 bt234.2 3).bind fun bt239 => (if 0 ≤ bt239.1 then (if bt239.1 < (y236.length : Int) then (some (rd y236 bt239.1, wrap64 ((rd y219 t222) + (rd y226 bt229.1)), bt239.2)) else (none)) else (none)))) else ((some (([121, 120, 0, (-1)] : List Int) : List Int)).bind fun y242 => ((spec_l20Rd_pick.f k s0_0 bt234.2 4).bind fun bt245 => (if 0 ≤ bt245.1 then (if bt245.1 < (y242.length : Int) then (some (rd y219 t222, rd y242 bt245.1, bt245.2)) else (none)) else (none)))))) else (some (rd y219 t222, wrap64 ((rd y219 t222) + (rd y226 bt229.1)), bt232.2)))) else (none)) else (none)))) else (none)) else (none)) = some (r1, r2, r3) := H
 have A4 := Az_.mk A40
 clear A40
 by_cases c5 : 0 ≤ t222
 ·rw [if_pos c5] at H
  have c5b0 : decide (0 ≤ t222) = true := decide_eq_true c5
  clear c5
  by_cases c6 : t222 < (y219.length : Int)
  ·rw [if_pos c6] at H
   have c6b0 : decide (t222 < (y219.length : Int)) = true := decide_eq_true c6
   clear c6
   obtain ⟨y226, hy226⟩ : ∃ y_ : List Int, y_ = (([1, 5, 10, 20] : List Int)) := ⟨_, rfl⟩
   replace H : ((spec_l20Rd_pick.f k s0_0 t223 4).bind fun bt229 => (if 0 ≤ bt229.1 then (if bt229.1 < (y226.length : Int) then ((spec_l20Rd_pick.f k s0_0 bt229.2 a1).bind fun bt232 => (if bt232.1 = 0 then ((spec_l20Rd_pick.f k s0_0 bt232.2 2).bind fun bt234 => (if bt234.1 = 0 then ((some (([(-1), 61, wrap64 ((rd y219 t222) + (rd y226 bt229.1))] : List Int) : List Int)).bind fun y236 => ((spec_l20Rd_pick.f k s0_0 bt234.2 3).bind fun bt239 => (if 0 ≤ bt239.1 then (if bt239.1 < (y236.length : Int) then (some (rd y236 bt239.1, wrap64 ((rd y219 t222) + (rd y226 bt229.1)), bt239.2)) else (none)) else (none)))) else ((some (([121, 120, 0, (-1)] : List Int) : List Int)).bind fun y242 => ((spec_l20Rd_pick.f k s0_0 bt234.2 4).bind fun bt245 => (if 0 ≤ bt245.1 then (if bt245.1 < (y242.length : Int) then (some (rd y219 t222, rd y242 bt245.1, bt245.2)) else (none)) else (none)))))) else (some (rd y219 t222, wrap64 ((rd y219 t222) + (rd y226 bt229.1)), bt232.2)))) else (none)) else (none))) = some (r1, r2, r3) := by first | (rw [hy226]; with_reducible exact H) | (have H2_ := (Option.bind_some _ _).symm.trans H; rw [hy226]; with_reducible exact H2_) | (have H2_ := (Option.bind_some _ _).symm.trans H; with_reducible exact H2_) | with_reducible exact H | (rw [hy226]; exact H) | exact H
   have Ny226 := Az_.mk hy226
   clear hy226
   replace H := Option.bind_eq_some_iff.mp H
   obtain ⟨⟨t229, t230⟩, A70, H⟩ := H
   replace H : (if 0 ≤ t229 then (if t229 < (y226.length : Int) then ((spec_l20Rd_pick.f k s0_0 t230 a1).bind fun bt232 => (if bt232.1 = 0 then ((spec_l20Rd_pick.f k s0_0 bt232.2 2).bind fun bt234 => (if bt234.1 = 0 then ((some (([(-1), 61, wrap64 ((rd y219 t222) + (rd y226 t229))] : List Int) : List Int)).bind fun y236 => ((spec_l20Rd_pick.f k s0_0 bt234.2 3).bind fun bt239 => (if 0 ≤ bt239.1 then (if bt239.1 < (y236.length : Int) then (some (rd y236 bt239.1, wrap64 ((rd y219 t222) + (rd y226 t229)), bt239.2)) else (none)) else (none)))) else ((some (([121, 120, 0, (-1)] : List Int) : List Int)).bind fun y242 => ((spec_l20Rd_pick.f k s0_0 bt234.2 4).bind fun bt245 => (if 0 ≤ bt245.1 then (if bt245.1 < (y242.length : Int) then (some (rd y219 t222, rd y242 bt245.1, bt245.2)) else (none)) else (none)))))) else (some (rd y219 t222, wrap64 ((rd y219 t222) + (rd y226 t229)), bt232.2)))) else (none)) else (none)) = some (r1, r2, r3) := H
   have A7 := Az_.mk A70
   clear A70
   by_cases c8 : 0 ≤ t229
   ·rw [if_pos c8] at H
    have c8b0 : decide (0 ≤ t229) = true := decide_eq_true c8
    clear c8
    by_cases c9 : t229 < (y226.length : Int)
    ·rw [if_pos c9] at H
     have c9b0 : decide (t229 < (y226.length : Int)) = true := decide_eq_true c9
     clear c9
     replace H := Option.bind_eq_some_iff.mp H
     obtain ⟨⟨t232, t233⟩, A100, H⟩ := H
     replace H : (if t232 = 0 then ((spec_l20Rd_pick.f k s0_0 t233 2).bind fun bt234 => (if bt234.1 = 0 then ((some (([(-1), 61, wrap64 ((rd y219 t222) + (rd y226 t229))] : List Int) : List Int)).bind fun y236 => ((spec_l20Rd_pick.f k s0_0 bt234.2 3).bind fun bt239 => (if 0 ≤ bt239.1 then (if bt239.1 < (y236.length : Int) then (some (rd y236 bt239.1, wrap64 ((rd y219 t222) + (rd y226 t229)), bt239.2)) else (none)) else (none)))) else ((some (([121, 120, 0, (-1)] : List Int) : List Int)).bind fun y242 => ((spec_l20Rd_pick.f k s0_0 bt234.2 4).bind fun bt245 => (if 0 ≤ bt245.1 then (if bt245.1 < (y242.length : Int) then (some (rd y219 t222, rd y242 bt245.1, bt245.2)) else (none)) else (none)))))) else (some (rd y219 t222, wrap64 ((rd y219 t222) + (rd y226 t229)), t233))) = some (r1, r2, r3) := H
     have A10 := Az_.mk A100
     clear A100
     by_cases c11 : t232 = 0
     ·rw [if_pos c11] at H
      have c11b0 : (t232 == 0) = true := beq_iff_eq.mpr c11
      have c11b1 : (t232 != 0) = false := bne_eq_false_iff_eq.mpr c11
      clear c11
      replace H := Option.bind_eq_some_iff.mp H
      obtain ⟨⟨t234, t235⟩, A120, H⟩ := H
      replace H : (if t234 = 0 then ((some (([(-1), 61, wrap64 ((rd y219 t222) + (rd y226 t229))] : List Int) : List Int)).bind fun y236 => ((spec_l20Rd_pick.f k s0_0 t235 3).bind fun bt239 => (if 0 ≤ bt239.1 then (if bt239.1 < (y236.length : Int) then (some (rd y236 bt239.1, wrap64 ((rd y219 t222) + (rd y226 t229)), bt239.2)) else (none)) else (none)))) else ((some (([121, 120, 0, (-1)] : List Int) : List Int)).bind fun y242 => ((spec_l20Rd_pick.f k s0_0 t235 4).bind fun bt245 => (if 0 ≤ bt245.1 then (if bt245.1 < (y242.length : Int) then (some (rd y219 t222, rd y242 bt245.1, bt245.2)) else (none)) else (none))))) = some (r1, r2, r3) := H
      have A12 := Az_.mk A120
      clear A120
      by_cases c13 : t234 = 0
      ·rw [if_pos c13] at H
       have c13b0 : (t234 == 0) = true := beq_iff_eq.mpr c13
       have c13b1 : (t234 != 0) = false := bne_eq_false_iff_eq.mpr c13
       clear c13
       obtain ⟨y236, hy236⟩ : ∃ y_ : List Int, y_ = (([(-1), 61, wrap64 ((rd y219 t222) + (rd y226 t229))] : List Int)) := ⟨_, rfl⟩
       replace H : ((spec_l20Rd_pick.f k s0_0 t235 3).bind fun bt239 => (if 0 ≤ bt239.1 then (if bt239.1 < (y236.length : Int) then (some (rd y236 bt239.1, wrap64 ((rd y219 t222) + (rd y226 t229)), bt239.2)) else (none)) else (none))) = some (r1, r2, r3) := by first | (rw [hy236]; with_reducible exact H) | (have H2_ := (Option.bind_some _ _).symm.trans H; rw [hy236]; with_reducible exact H2_) | (have H2_ := (Option.bind_some _ _).symm.trans H; with_reducible exact H2_) | with_reducible exact H | (rw [hy236]; exact H) | exact H
       have Ny236 := Az_.mk hy236
       clear hy236
       replace H := Option.bind_eq_some_iff.mp H
       obtain ⟨⟨t239, t240⟩, A140, H⟩ := H
       replace H : (if 0 ≤ t239 then (if t239 < (y236.length : Int) then (some (rd y236 t239, wrap64 ((rd y219 t222) + (rd y226 t229)), t240)) else (none)) else (none)) = some (r1, r2, r3) := H
       have A14 := Az_.mk A140
       clear A140
       by_cases c15 : 0 ≤ t239
       ·rw [if_pos c15] at H
        have c15b0 : decide (0 ≤ t239) = true := decide_eq_true c15
        clear c15
        by_cases c16 : t239 < (y236.length : Int)
        ·rw [if_pos c16] at H
         have c16b0 : decide (t239 < (y236.length : Int)) = true := decide_eq_true c16
         clear c16
         simp only [Option.some.injEq, Prod.mk.injEq] at H
         obtain ⟨rfl, rfl, rfl⟩ := H
         go_enter Try.func67, Try.ntmps67
         try go_wp2_with (first | ((with_reducible refine gate_dst (N := 4) rfl ?_); refine box_event ?hg (N := 4) ?hd (cs := #[.int .i64 0, .int .i64 0]) (t := 26) ?hr ?_; (case hd => rfl); (case hg => rfl); (case hr => first | (go_simp; done) | (go_simp; rfl)); intro gb216 hg w17 hbox hb; have n0_ := Az_.mk (I81_.below (by repeat (first | (with_reducible first | exact HI0.out | apply I81_.alloc | apply I81_.drewN | apply I81_.drew | apply I81_.set_1) | exact HI0.out)) hb); have n1_ := Az_.mk (KeepBut.trans (by repeat (first | (with_reducible first | exact HK.out | apply KeepBut.set_ | apply kN_ | apply kD_ | apply kA_) | exact HK.out)) (KeepBut.of_below hb g none) (.inl rfl)); have n2_ := Az_.mk (below_step (by repeat (first | (with_reducible first | exact HB.out | apply eA_ | apply pN_ | apply eD_ | refine eS_ ?_ (I81_.ge HI0.out)) | exact HB.out)) hb); have n3_ := Az_.mk (hbox); have n4_ := Az_.mk ((by rw [hg]; exact (keep_size (w := w) (g := g) (row := none) (by repeat (first | (with_reducible first | exact HK.out | apply KeepBut.set_ | apply kN_ | apply kD_ | apply kA_) | exact HK.out))) : w.heap.size ≤ gb216)); have n5_ := Az_.mk ((Nat.le_trans HW0.out (by rw [hg]; exact (keep_size (w := w) (g := g) (row := none) (by repeat (first | (with_reducible first | exact HK.out | apply KeepBut.set_ | apply kN_ | apply kD_ | apply kA_) | exact HK.out))) : w.heap.size ≤ gb216) : w0.heap.size ≤ gb216)); have n6_ := Az_.mk ((by rw [hg]; exact Nat.ne_of_lt (Nat.lt_of_lt_of_le HG0.out (keep_size (w := w) (g := g) (row := none) (by repeat (first | (with_reducible first | exact HK.out | apply KeepBut.set_ | apply kN_ | apply kD_ | apply kA_) | exact HK.out)))) : g ≠ gb216)); have n7_ := Az_.mk ((by rw [hg]; exact Nat.ne_of_gt (Nat.lt_of_lt_of_le HG0.out (keep_size (w := w) (g := g) (row := none) (by repeat (first | (with_reducible first | exact HK.out | apply KeepBut.set_ | apply kN_ | apply kD_ | apply kA_) | exact HK.out)))) : gb216 ≠ g)); clear HI0; clear HK; clear HB; have HI0 := n0_; have HK := n1_; have HB := n2_; have BK216 := n3_; have GW216 := n4_; have GE216 := n5_; have NB0_216 := n6_; have NB216_0 := n7_; clear n0_ n1_ n2_ n3_ n4_ n5_ n6_ n7_; clear hb hbox hg) | ((with_reducible refine gate_callee (f := 53) rfl ?_); refine goesL_ (some 7) rfl rfl Try.func53 (by kernel_rfl) rfl #[.pointer (some ⟨g, 0, none⟩), .int .i64 40] rfl (by (try simp only [List.map_toArray, List.map_cons, List.map_nil]); first | done | rfl | (simp only [List.length_drop, List.length_take]; rfl)) ?_; (with_reducible refine (spec_l20Rd_pick.calls k g s0_0 s0_1 40 t217 t218 w0 _ ?side1 ?side2 A3.out).mono ?_); (case side1 => repeat (first | (with_reducible first | exact HI0.out | apply I81_.alloc | apply I81_.drewN | apply I81_.drew | apply I81_.set_1 | refine I81_.far ?_ NB0_216.out _) | exact HI0.out)); (case side2 => repeat (first | (with_reducible first | exact HB.out | apply eA_ | apply pN_ | apply eD_ | refine eS_ ?_ (I81_.ge HI0.out) | refine eS_ ?_ GE216.out) | exact HB.out)); rintro e w18 ⟨rfl, hi, hb, hk⟩; refine ⟨_, rfl, ?_⟩; have n0_ := Az_.mk (KeepBut.blk hk (g' := gb216) (o := .cells #[.int .i64 0, .int .i64 0] 26 (0, 0)) (by (with_reducible repeat (first | refine bN_ ?_ _ | refine bD_ ?_ | refine bA_ ?_ _)); exact BK216.out) NB216_0.out (by simp)); have n1_ := Az_.mk (KeepBut.trans (by repeat (first | (with_reducible first | exact HK.out | apply KeepBut.set_ | apply kN_ | apply kD_ | apply kA_ | refine kF_ ?_ GW216.out _) | exact HK.out)) hk (.inl rfl)); have n2_ := Az_.mk (hb); have n3_ := Az_.mk (hi); clear BK216; clear HK; clear HB; clear HI0; have BK216 := n0_; have HK := n1_; have HB := n2_; have HI0 := n3_; clear n0_ n1_ n2_ n3_; (try clear hb); (try clear hb2); (try clear hk); (try clear hi)) | ((with_reducible refine gate_dst (N := 8) rfl ?_); refine Kd.R_lit (Kd.int .i64) _ 3 ?hg (N := 8) ?hd (xs := ([0, 5, 20, 60, t217] : List Int)) (inner := [.int .i64 0, .int .i64 5, .int .i64 20, .int .i64 60, .int .i64 t217]) (ok := fun _ => True) (okp := fun _ => True) ?hr ?hp (fun _ hk => hk) trivial (Below.refl _ _) (Nat.le_refl _) (by simp) ?_; (case hd => rfl); (case hg => rfl); (case hr => first | (go_simp; done) | (go_simp; rfl)); (case hp => exact (Reps.one (show Kd.M (Kd.int .i64) _ _ _ 0 [.int .i64 0] from rfl) (Reps.one (show Kd.M (Kd.int .i64) _ _ _ 5 [.int .i64 5] from rfl) (Reps.one (show Kd.M (Kd.int .i64) _ _ _ 20 [.int .i64 20] from rfl) (Reps.one (show Kd.M (Kd.int .i64) _ _ _ 60 [.int .i64 60] from rfl) (Reps.one (show Kd.M (Kd.int .i64) _ _ _ t217 [.int .i64 t217] from rfl) (Reps.none _ _))))))); intro v220 w19 ho20 hb hg_ hnew_; clear hg_ hnew_; (first | rw [← Ny219.out] at ho20 | (simp only [Int.reduceToNat] at ho20; rw [← Ny219.out] at ho20)); have n0_ := Az_.mk (Kd.R_lower ho20 (keep_size (w := w) (g := g) (row := none) (by repeat (first | (with_reducible first | exact HK.out | apply KeepBut.set_ | apply kN_ | apply kD_ | apply kA_ | refine kF_ ?_ GW216.out _) | exact HK.out)))); have n1_ := Az_.mk (I81_.below (by repeat (first | (with_reducible first | exact HI0.out | apply I81_.alloc | apply I81_.drewN | apply I81_.drew | apply I81_.set_1 | refine I81_.far ?_ NB0_216.out _) | exact HI0.out)) hb); have n2_ := Az_.mk (bB_ (g := gb216) (o := .cells #[.int .i64 0, .int .i64 0] 26 (0, 0)) (by (with_reducible repeat (first | refine bN_ ?_ _ | refine bD_ ?_ | refine bA_ ?_ _)); exact BK216.out) hb); have n3_ := Az_.mk (KeepBut.trans (by repeat (first | (with_reducible first | exact HK.out | apply KeepBut.set_ | apply kN_ | apply kD_ | apply kA_ | refine kF_ ?_ GW216.out _) | exact HK.out)) (KeepBut.of_below hb g none) (.inl rfl)); have n4_ := Az_.mk (below_step (by repeat (first | (with_reducible first | exact HB.out | apply eA_ | apply pN_ | apply eD_ | refine eS_ ?_ (I81_.ge HI0.out) | refine eS_ ?_ GE216.out) | exact HB.out)) hb); clear HI0; clear BK216; clear HK; clear HB; have HO221 := n0_; have HI0 := n1_; have BK216 := n2_; have HK := n3_; have HB := n4_; clear n0_ n1_ n2_ n3_ n4_; clear hb ho20) | ((with_reducible refine gate_callee (f := 53) rfl ?_); refine goesL_ (some 10) rfl rfl Try.func53 (by kernel_rfl) rfl #[.pointer (some ⟨g, 0, none⟩), .int .i64 5] rfl (by (try simp only [List.map_toArray, List.map_cons, List.map_nil]); first | done | rfl | (simp only [List.length_drop, List.length_take]; rfl)) ?_; (with_reducible refine (spec_l20Rd_pick.calls k g s0_0 t218 5 t222 t223 w0 _ ?side1 ?side2 A4.out).mono ?_); (case side1 => repeat (first | (with_reducible first | exact HI0.out | apply I81_.alloc | apply I81_.drewN | apply I81_.drew | apply I81_.set_1 | refine I81_.far ?_ NB0_216.out _) | exact HI0.out)); (case side2 => repeat (first | (with_reducible first | exact HB.out | apply eA_ | apply pN_ | apply eD_ | refine eS_ ?_ (I81_.ge HI0.out) | refine eS_ ?_ GE216.out) | exact HB.out)); rintro e w21 ⟨rfl, hi, hb, hk⟩; refine ⟨_, rfl, ?_⟩; have n0_ := Az_.mk (KeepBut.blk hk (g' := gb216) (o := .cells #[.int .i64 0, .int .i64 0] 26 (0, 0)) (by (with_reducible repeat (first | refine bN_ ?_ _ | refine bD_ ?_ | refine bA_ ?_ _)); exact BK216.out) NB216_0.out (by simp)); have n1_ := Az_.mk (Kd.R_mono (Kd.R_keep (I81_.apart (show I81_ w0 _ g s0_0 t218 from by repeat (first | (with_reducible first | exact HI0.out | apply I81_.alloc | apply I81_.drewN | apply I81_.drew | apply I81_.set_1 | refine I81_.far ?_ NB0_216.out _) | exact HI0.out)) (by (with_reducible repeat (first | apply Kd.R_alloc | apply Kd.R_drewN | apply Kd.R_drew)); exact HO221.out) (by decide)) hk (fun _ h => h.2)) (fun _ h => h.1)); have n2_ := Az_.mk (KeepBut.trans (by repeat (first | (with_reducible first | exact HK.out | apply KeepBut.set_ | apply kN_ | apply kD_ | apply kA_ | refine kF_ ?_ GW216.out _) | exact HK.out)) hk (.inl rfl)); have n3_ := Az_.mk (hb); have n4_ := Az_.mk (hi); clear BK216; clear HO221; clear HK; clear HB; clear HI0; have BK216 := n0_; have HO221 := n1_; have HK := n2_; have HB := n3_; have HI0 := n4_; clear n0_ n1_ n2_ n3_ n4_; (try clear hb); (try clear hb2); (try clear hk); (try clear hi); obtain ⟨Ao22, co22, eo22⟩ := Kd.R_slice HO221.out; subst eo22; have p224 : 0 ≤ (t222 : Int) := of_decide_eq_true (by first | (with_reducible assumption) | assumption); have q224 : t222 < (y219.length : Int) := of_decide_eq_true (by first | (with_reducible assumption) | assumption); obtain ⟨ad224, e224, hx224_0⟩ := Kd.at_int (Kd.R_reads' HO221.out).2.2 t222 p224 q224; cases e224; replace p224 := eq_true p224; replace q224 := eq_true q224) | ((with_reducible refine gate_dst (N := 5) rfl ?_); refine box_event ?hg (N := 5) ?hd (cs := #[.int .i64 0, .int .i64 0]) (t := 26) ?hr ?_; (case hd => rfl); (case hg => rfl); (case hr => first | (go_simp; done) | (go_simp; rfl)); intro gb225 hg w23 hbox hb; have n0_ := Az_.mk (Kd.R_below (by (with_reducible repeat (first | apply Kd.R_alloc | apply Kd.R_drewN | apply Kd.R_drew)); exact HO221.out) hb); have n1_ := Az_.mk (I81_.below (by repeat (first | (with_reducible first | exact HI0.out | apply I81_.alloc | apply I81_.drewN | apply I81_.drew | apply I81_.set_1 | refine I81_.far ?_ NB0_216.out _) | exact HI0.out)) hb); have n2_ := Az_.mk (bB_ (g := gb216) (o := .cells #[.int .i64 0, .int .i64 0] 26 (0, 0)) (by (with_reducible repeat (first | refine bN_ ?_ _ | refine bD_ ?_ | refine bA_ ?_ _)); exact BK216.out) hb); have n3_ := Az_.mk (KeepBut.trans (by repeat (first | (with_reducible first | exact HK.out | apply KeepBut.set_ | apply kN_ | apply kD_ | apply kA_ | refine kF_ ?_ GW216.out _) | exact HK.out)) (KeepBut.of_below hb g none) (.inl rfl)); have n4_ := Az_.mk (below_step (by repeat (first | (with_reducible first | exact HB.out | apply eA_ | apply pN_ | apply eD_ | refine eS_ ?_ (I81_.ge HI0.out) | refine eS_ ?_ GE216.out) | exact HB.out)) hb); have n5_ := Az_.mk (hbox); have n6_ := Az_.mk ((by rw [hg]; exact (keep_size (w := w) (g := g) (row := none) (by repeat (first | (with_reducible first | exact HK.out | apply KeepBut.set_ | apply kN_ | apply kD_ | apply kA_ | refine kF_ ?_ GW216.out _) | exact HK.out))) : w.heap.size ≤ gb225)); have n7_ := Az_.mk ((Nat.le_trans HW0.out (by rw [hg]; exact (keep_size (w := w) (g := g) (row := none) (by repeat (first | (with_reducible first | exact HK.out | apply KeepBut.set_ | apply kN_ | apply kD_ | apply kA_ | refine kF_ ?_ GW216.out _) | exact HK.out))) : w.heap.size ≤ gb225) : w0.heap.size ≤ gb225)); have n8_ := Az_.mk ((by rw [hg]; exact Nat.ne_of_lt (blk_lt (g := gb216) (o := .cells #[.int .i64 0, .int .i64 0] 26 (0, 0)) (by (with_reducible repeat (first | refine bN_ ?_ _ | refine bD_ ?_ | refine bA_ ?_ _)); exact BK216.out)) : gb216 ≠ gb225)); have n9_ := Az_.mk ((by rw [hg]; exact Nat.ne_of_gt (blk_lt (g := gb216) (o := .cells #[.int .i64 0, .int .i64 0] 26 (0, 0)) (by (with_reducible repeat (first | refine bN_ ?_ _ | refine bD_ ?_ | refine bA_ ?_ _)); exact BK216.out)) : gb225 ≠ gb216)); have n10_ := Az_.mk ((by rw [hg]; exact Nat.ne_of_lt (Nat.lt_of_lt_of_le HG0.out (keep_size (w := w) (g := g) (row := none) (by repeat (first | (with_reducible first | exact HK.out | apply KeepBut.set_ | apply kN_ | apply kD_ | apply kA_ | refine kF_ ?_ GW216.out _) | exact HK.out)))) : g ≠ gb225)); have n11_ := Az_.mk ((by rw [hg]; exact Nat.ne_of_gt (Nat.lt_of_lt_of_le HG0.out (keep_size (w := w) (g := g) (row := none) (by repeat (first | (with_reducible first | exact HK.out | apply KeepBut.set_ | apply kN_ | apply kD_ | apply kA_ | refine kF_ ?_ GW216.out _) | exact HK.out)))) : gb225 ≠ g)); clear HO221; clear HI0; clear BK216; clear HK; clear HB; have HO221 := n0_; have HI0 := n1_; have BK216 := n2_; have HK := n3_; have HB := n4_; have BK225 := n5_; have GW225 := n6_; have GE225 := n7_; have NB216_225 := n8_; have NB225_216 := n9_; have NB0_225 := n10_; have NB225_0 := n11_; clear n0_ n1_ n2_ n3_ n4_ n5_ n6_ n7_ n8_ n9_ n10_ n11_; clear hb hbox hg; have hnb24 := NB225_216.out; have hnc24 := NB216_225.out; have hnb25 := NB225_0.out; have hnc25 := NB0_225.out; have hcz26_0 : w23.cell? ⟨gb225, 0, none⟩ = some (.int .i64 0) := (bC_ BK225.out 0).trans rfl; have hcz26_1 : w23.cell? ⟨gb225, 1, none⟩ = some (.int .i64 0) := (bC_ BK225.out 1).trans rfl; have hfz26_0 := bF_ BK225.out 0; have hfz26_1 := bF_ BK225.out 1))
         have pi231 : (0 ≤ (t229 : Int)) = True := eq_true (of_decide_eq_true (by first | (with_reducible assumption) | assumption))
         have qi231 : (t229 < (y226.length : Int)) = True := eq_true (of_decide_eq_true (by first | (with_reducible assumption) | assumption))
         have n0_ : Az_ (Kd.R (Kd.int .i64) 3 ((w23.setCell ⟨gb225, 0, none⟩ (.int .i64 (rd y219 t222))).setCell ⟨gb225, 1, none⟩ (.int .i64 0)) w.heap.size (fun _ => True) (.slice (some ad224) y219.length co22) y219) := ⟨by (with_reducible repeat (first | apply Kd.R_alloc | apply Kd.R_drewN | apply Kd.R_drew)); exact Kd.R_mono (Kd.R_far (p := ⟨gb225, 1, none⟩) (Kd.R_far (p := ⟨gb225, 0, none⟩) (Kd.R_types HO221.out BK225.out (by decide)) (fun _ hk => hk.2) (.int .i64 (rd y219 t222))) (fun _ hk => hk.2) (.int .i64 0)) (fun _ hk => trivial)⟩
         have n1_ : Az_ (((w23.setCell ⟨gb225, 0, none⟩ (.int .i64 (rd y219 t222))).setCell ⟨gb225, 1, none⟩ (.int .i64 0)).heap[gb216]? = some (.cells #[.int .i64 0, .int .i64 0] 26 (0, 0))) := ⟨by (with_reducible repeat (first | refine bN_ ?_ _ | refine bD_ ?_ | refine bA_ ?_ _)); refine bR_ ?_ NB216_225.out _; (with_reducible repeat (first | refine bN_ ?_ _ | refine bD_ ?_ | refine bA_ ?_ _)); refine bR_ ?_ NB216_225.out _; (with_reducible repeat (first | refine bN_ ?_ _ | refine bD_ ?_ | refine bA_ ?_ _)); exact BK216.out⟩
         have n2_ : Az_ (((w23.setCell ⟨gb225, 0, none⟩ (.int .i64 (rd y219 t222))).setCell ⟨gb225, 1, none⟩ (.int .i64 0)).heap[gb225]? = some (.cells #[.int .i64 (rd y219 t222), .int .i64 0] 26 (0, 0))) := ⟨by (with_reducible repeat (first | refine bN_ ?_ _ | refine bD_ ?_ | refine bA_ ?_ _)); refine bP_ (cs := #[.int .i64 (rd y219 t222), .int .i64 0]) ?_ 1 _ rfl; (with_reducible repeat (first | refine bN_ ?_ _ | refine bD_ ?_ | refine bA_ ?_ _)); refine bP_ (cs := #[.int .i64 0, .int .i64 0]) ?_ 0 _ rfl; (with_reducible repeat (first | refine bN_ ?_ _ | refine bD_ ?_ | refine bA_ ?_ _)); exact BK225.out⟩
         have n3_ : Az_ (I81_ w0 ((w23.setCell ⟨gb225, 0, none⟩ (.int .i64 (rd y219 t222))).setCell ⟨gb225, 1, none⟩ (.int .i64 0)) g s0_0 t223) := ⟨by repeat (first | (with_reducible first | exact HI0.out | apply I81_.alloc | apply I81_.drewN | apply I81_.drew | apply I81_.set_1 | refine I81_.far ?_ NB0_216.out _ | refine I81_.far ?_ NB0_225.out _) | exact HI0.out)⟩
         have n4_ : Az_ (KeepBut w ((w23.setCell ⟨gb225, 0, none⟩ (.int .i64 (rd y219 t222))).setCell ⟨gb225, 1, none⟩ (.int .i64 0)) g none) := ⟨by repeat (first | (with_reducible first | exact HK.out | apply KeepBut.set_ | apply kN_ | apply kD_ | apply kA_ | refine kF_ ?_ GW216.out _ | refine kF_ ?_ GW225.out _) | exact HK.out)⟩
         have n5_ : Az_ (Below w0.heap.size w0 ((w23.setCell ⟨gb225, 0, none⟩ (.int .i64 (rd y219 t222))).setCell ⟨gb225, 1, none⟩ (.int .i64 0))) := ⟨by repeat (first | (with_reducible first | exact HB.out | apply eA_ | apply pN_ | apply eD_ | refine eS_ ?_ (I81_.ge HI0.out) | refine eS_ ?_ GE216.out | refine eS_ ?_ GE225.out) | exact HB.out)⟩
         (try clear HO221)
         (try clear BK216)
         (try clear BK225)
         (try clear HI0)
         (try clear HK)
         (try clear HB)
         generalize ((w23.setCell ⟨gb225, 0, none⟩ (.int .i64 (rd y219 t222))).setCell ⟨gb225, 1, none⟩ (.int .i64 0)) = w27 at n0_ n1_ n2_ n3_ n4_ n5_ ⊢
         have HO221 := n0_
         have BK216 := n1_
         have BK225 := n2_
         have HI0 := n3_
         have HK := n4_
         have HB := n5_
         clear n0_ n1_ n2_ n3_ n4_ n5_
         have n0_ := Az_.mk (Kd.R_drew HO221.out)
         have n1_ := Az_.mk (bD_ BK216.out)
         have n2_ := Az_.mk (bD_ BK225.out)
         have n3_ := Az_.mk (I81_.drew HI0.out)
         have n4_ := Az_.mk (kD_ HK.out)
         have n5_ := Az_.mk (eD_ HB.out)
         clear HO221
         clear BK216
         clear BK225
         clear HI0
         clear HK
         clear HB
         have HO221 := n0_
         have BK216 := n1_
         have BK225 := n2_
         have HI0 := n3_
         have HK := n4_
         have HB := n5_
         clear n0_ n1_ n2_ n3_ n4_ n5_
         refine start_ (n := 10) (S := fun w' => w'.cell? ⟨gb225, 0, none⟩ = some (.int .i64 (rd y219 t222)) ∧ w'.cell? ⟨gb225, 1, none⟩ = some (.int .i64 0)) (ds := [9]) #[false, false, false, false, false, false, false, false, false, false] (by kernel_rfl) rfl rfl ⟨(bC_ BK225.out 0).trans rfl, (bC_ BK225.out 1).trans rfl⟩ (fun hHeld => ?_); refine with_tabW spec_l20Win.tab2 spec_l20Win.bits2 (fun HT_ HW_ => ?_)
         generalize w27.drew = w28 at HO221 BK216 BK225 HI0 HK HB hHeld ⊢
         refine pure_ (i := 0) (N := some 14) (v := ?_) (a' := ?_) #[true, false, false, false, false, false, false, false, false, false] rfl rfl (any_of HT_.out (by kernel_rfl)) (fun _ _ _ h => h) (Or.inl ⟨by rfl, ?_⟩) ?_ ?_
         rotate_left
         ·intro w'
          go_simp
          with_reducible rfl
         rotate_left
         ·simp only [Act.put, List.setIfInBounds_toArray, List.set_cons_zero, List.set_cons_succ, i64_w, i32_w]
          rfl
         refine pure_ (i := 3) (N := some 17) (v := ?_) (a' := ?_) #[true, false, false, true, false, false, false, false, false, false] rfl rfl (any_of HT_.out (by kernel_rfl)) (fun _ _ _ h => h) (Or.inl ⟨by rfl, ?_⟩) ?_ ?_
         rotate_left
         ·intro w'
          go_simp
          with_reducible rfl
         rotate_left
         ·simp only [Act.put, List.setIfInBounds_toArray, List.set_cons_zero, List.set_cons_succ, i64_w, i32_w]
          rfl
         refine take_ (i := 1) (N := some 15) (v := ?_) (a' := ?_) #[true, true, false, true, false, false, false, false, false, false] rfl rfl (take_ofW HT_.out HW_.out (by kernel_rfl)) (fun _ _ _ h => h) (Or.inl ⟨by rfl, ?_⟩) hHeld ?_ ?_
         rotate_left
         ·rintro w' ⟨s0, s1⟩
          go_simp
          with_reducible rfl
         rotate_left
         ·simp only [Act.put, List.setIfInBounds_toArray, List.set_cons_zero, List.set_cons_succ, i64_w, i32_w]
          rfl
         refine join_ (σ := Value × Addr) 5 #[true, true, true, true, true, false, false, false, false, false] (fun s_ => [(16, s_.1), (18, .int .i64 t229)]) (fun s_ w' => (w'.cell? ⟨gb225, 0, none⟩ = some (.int .i64 (rd y219 t222)) ∧ w'.cell? ⟨gb225, 1, none⟩ = some (.int .i64 0)) ∧ (Kd.R (Kd.int .i64) 3 w' w.heap.size (fun k_ => some k_ ≠ (s_.1 : Value).ownBlock) (.slice (some ad224) y219.length co22) y219) ∧ (Kd.R (Kd.int .i64) 3 w' w.heap.size (fun k_ => some k_ ≠ (.slice (some ad224) y219.length co22 : Value).ownBlock) s_.1 y226) ∧ (∃ c_, (s_.1 : Value) = .slice (some s_.2) y226.length c_) ∧ (w'.heap[gb216]? = some (.cells #[.int .i64 0, .int .i64 0] 26 (0, 0))) ∧ (w'.heap[gb225]? = some (.cells #[.int .i64 (rd y219 t222), .int .i64 0] 26 (0, 0))) ∧ (I81_ w0 w' g s0_0 t230) ∧ (KeepBut w w' g none) ∧ (Below w0.heap.size w0 w')) ?_ ?_
         rotate_left
         ·intro hCont
          refine two_ (i := 2) (j := 4) (Ni := some 16) (Nj := some 18) #[true, true, true, true, false, false, false, false, false, false] #[true, true, false, true, true, false, false, false, false, false] rfl rfl rfl rfl (two_of HT_.out (by kernel_rfl)) (by decide) (by decide) (fun K hK => ?_) (fun K hK => ?_)
          ·skip
           refine Kd.R_lit_step (Kd.int .i64) _ 3 ?hg (N := 16) ?hd (xs := ([1, 5, 10, 20] : List Int)) (inner := [.int .i64 1, .int .i64 5, .int .i64 10, .int .i64 20]) (ok := fun _ => True) (okp := fun _ => True) ?hr ?hp (fun _ hk => hk) trivial (Below.refl _ _) (Nat.le_refl _) (by simp) ?_; (case hd => rfl); (case hg => rfl); (case hr => first | (go_simp; done) | (go_simp; rfl)); (case hp => exact (Reps.one (show Kd.M (Kd.int .i64) _ _ _ 1 [.int .i64 1] from rfl) (Reps.one (show Kd.M (Kd.int .i64) _ _ _ 5 [.int .i64 5] from rfl) (Reps.one (show Kd.M (Kd.int .i64) _ _ _ 10 [.int .i64 10] from rfl) (Reps.one (show Kd.M (Kd.int .i64) _ _ _ 20 [.int .i64 20] from rfl) (Reps.none _ _))))))
           intro v227 w29 ho30 hb hg_ hnew_
           clear hg_ hnew_
           (first | rw [← Ny226.out] at ho30 | (simp only [Int.reduceToNat] at ho30; rw [← Ny226.out] at ho30))
           have n0_ := Az_.mk (Kd.R_elder' (by (with_reducible repeat (first | apply Kd.R_alloc | apply Kd.R_drewN | apply Kd.R_drew)); exact HO221.out) (Kd.R_base ho30) hb)
           have n1_ := Az_.mk (Kd.R_lower (Kd.R_new' ho30 (Kd.R_lt (by (with_reducible repeat (first | apply Kd.R_alloc | apply Kd.R_drewN | apply Kd.R_drew)); exact HO221.out))) (keep_size (w := w) (g := g) (row := none) (by repeat (first | (with_reducible first | exact HK.out | apply KeepBut.set_ | apply kN_ | apply kD_ | apply kA_ | refine kF_ ?_ GW216.out _ | refine kF_ ?_ GW225.out _) | exact HK.out))))
           have n2_ := Az_.mk (I81_.below (by repeat (first | (with_reducible first | exact HI0.out | apply I81_.alloc | apply I81_.drewN | apply I81_.drew | apply I81_.set_1 | refine I81_.far ?_ NB0_216.out _ | refine I81_.far ?_ NB0_225.out _) | exact HI0.out)) hb)
           have n3_ := Az_.mk (bB_ (g := gb216) (o := .cells #[.int .i64 0, .int .i64 0] 26 (0, 0)) (by (with_reducible repeat (first | refine bN_ ?_ _ | refine bD_ ?_ | refine bA_ ?_ _)); exact BK216.out) hb)
           have n4_ := Az_.mk (bB_ (g := gb225) (o := .cells #[.int .i64 (rd y219 t222), .int .i64 0] 26 (0, 0)) (by (with_reducible repeat (first | refine bN_ ?_ _ | refine bD_ ?_ | refine bA_ ?_ _)); exact BK225.out) hb)
           have n5_ := Az_.mk (KeepBut.trans (by repeat (first | (with_reducible first | exact HK.out | apply KeepBut.set_ | apply kN_ | apply kD_ | apply kA_ | refine kF_ ?_ GW216.out _ | refine kF_ ?_ GW225.out _) | exact HK.out)) (KeepBut.of_below hb g none) (.inl rfl))
           have n6_ := Az_.mk (below_step (by repeat (first | (with_reducible first | exact HB.out | apply eA_ | apply pN_ | apply eD_ | refine eS_ ?_ (I81_.ge HI0.out) | refine eS_ ?_ GE216.out | refine eS_ ?_ GE225.out) | exact HB.out)) hb)
           clear HO221
           clear HI0
           clear BK216
           clear BK225
           clear HK
           clear HB
           have HO221 := n0_
           have HO228 := n1_
           have HI0 := n2_
           have BK216 := n3_
           have BK225 := n4_
           have HK := n5_
           have HB := n6_
           clear n0_ n1_ n2_ n3_ n4_ n5_ n6_
           clear hb ho30
           obtain ⟨Ao31, co31, eo31⟩ := Kd.R_slice HO228.out
           subst eo31
           obtain ⟨ado31, fo31, _⟩ := Kd.at_int (Kd.R_reads' HO228.out).2.2 0 (by decide) (by rw [Ny226.out]; simp)
           cases fo31
           refine hK.out _ _ ⟨(bC_ BK225.out 0).trans rfl, (bC_ BK225.out 1).trans rfl⟩ (fun hHeld => ?_)
           clear hK K
           refine norm_ (a' := ?_) ?_ ?_
           rotate_left
           ·show Act.put _ (some 16) _ = _
            simp only [Act.put, List.setIfInBounds_toArray, List.set_cons_zero, List.set_cons_succ, i64_w, i32_w]
            rfl
           refine one_ (i := 4) (N := some 18) #[true, true, true, true, true, false, false, false, false, false] rfl rfl (one_of HT_.out (by kernel_rfl)) (by decide) (fun K hK => ?_)
           refine goes_ Try.func53 (by kernel_rfl) rfl #[.pointer (some ⟨g, 0, none⟩), .int .i64 4] (by rfl) rfl rfl (by (try simp only [List.map_toArray, List.map_cons, List.map_nil]); first | done | rfl | (simp only [List.length_drop, List.length_take]; rfl)) ?_
           with_reducible refine (spec_l20Rd_pick.calls k g s0_0 t223 4 t229 t230 w0 _ ?side1 ?side2 A7.out).mono ?_
           (case side1 => repeat (first | (with_reducible first | exact HI0.out | apply I81_.alloc | apply I81_.drewN | apply I81_.drew | apply I81_.set_1 | refine I81_.far ?_ NB0_216.out _ | refine I81_.far ?_ NB0_225.out _) | exact HI0.out))
           (case side2 => repeat (first | (with_reducible first | exact HB.out | apply eA_ | apply pN_ | apply eD_ | refine eS_ ?_ (I81_.ge HI0.out) | refine eS_ ?_ GE216.out | refine eS_ ?_ GE225.out) | exact HB.out))
           rintro e w32 ⟨rfl, hi, hb, hk⟩
           refine ⟨_, rfl, ?_⟩
           have n0_ := Az_.mk (KeepBut.blk hk (g' := gb216) (o := .cells #[.int .i64 0, .int .i64 0] 26 (0, 0)) (by (with_reducible repeat (first | refine bN_ ?_ _ | refine bD_ ?_ | refine bA_ ?_ _)); exact BK216.out) NB216_0.out (by simp))
           have n1_ := Az_.mk (Kd.R_mono (Kd.R_keep (I81_.apart (show I81_ w0 _ g s0_0 t223 from by repeat (first | (with_reducible first | exact HI0.out | apply I81_.alloc | apply I81_.drewN | apply I81_.drew | apply I81_.set_1 | refine I81_.far ?_ NB0_216.out _ | refine I81_.far ?_ NB0_225.out _) | exact HI0.out)) (by (with_reducible repeat (first | apply Kd.R_alloc | apply Kd.R_drewN | apply Kd.R_drew)); exact HO221.out) (by decide)) hk (fun _ h => h.2)) (fun _ h => h.1))
           have n2_ := Az_.mk (KeepBut.blk hk (g' := gb225) (o := .cells #[.int .i64 (rd y219 t222), .int .i64 0] 26 (0, 0)) (by (with_reducible repeat (first | refine bN_ ?_ _ | refine bD_ ?_ | refine bA_ ?_ _)); exact BK225.out) NB225_0.out (by simp))
           have n3_ := Az_.mk (Kd.R_mono (Kd.R_keep (I81_.apart (show I81_ w0 _ g s0_0 t223 from by repeat (first | (with_reducible first | exact HI0.out | apply I81_.alloc | apply I81_.drewN | apply I81_.drew | apply I81_.set_1 | refine I81_.far ?_ NB0_216.out _ | refine I81_.far ?_ NB0_225.out _) | exact HI0.out)) (by (with_reducible repeat (first | apply Kd.R_alloc | apply Kd.R_drewN | apply Kd.R_drew)); exact HO228.out) (by decide)) hk (fun _ h => h.2)) (fun _ h => h.1))
           have n4_ := Az_.mk (KeepBut.trans (by repeat (first | (with_reducible first | exact HK.out | apply KeepBut.set_ | apply kN_ | apply kD_ | apply kA_ | refine kF_ ?_ GW216.out _ | refine kF_ ?_ GW225.out _) | exact HK.out)) hk (.inl rfl))
           have n5_ := Az_.mk (hb)
           have n6_ := Az_.mk (hi)
           clear BK216
           clear HO221
           clear BK225
           clear HO228
           clear HK
           clear HB
           clear HI0
           have BK216 := n0_
           have HO221 := n1_
           have BK225 := n2_
           have HO228 := n3_
           have HK := n4_
           have HB := n5_
           have HI0 := n6_
           clear n0_ n1_ n2_ n3_ n4_ n5_ n6_
           (try clear hb)
           (try clear hb2)
           (try clear hk)
           (try clear hi)
           refine hK.out _ _ ⟨(bC_ BK225.out 0).trans rfl, (bC_ BK225.out 1).trans rfl⟩ (fun hHeld => ?_)
           clear hK K
           refine norm_ (a' := ?_) ?_ ?_
           rotate_left
           ·show Act.put _ (some 18) _ = _
            simp only [Act.put, List.setIfInBounds_toArray, List.set_cons_zero, List.set_cons_succ, i64_w, i32_w]
            rfl
           exact norm_ (by simp only [putAll, Act.put, List.setIfInBounds_toArray, List.set_cons_zero, List.set_cons_succ]) (hCont (.slice (some ado31) y226.length co31, ado31) _ ⟨hHeld, (by (with_reducible repeat (first | apply Kd.R_alloc | apply Kd.R_drewN | apply Kd.R_drew)); exact Kd.R_mono HO221.out (fun _ hk => hk.2)), (by (with_reducible repeat (first | apply Kd.R_alloc | apply Kd.R_drewN | apply Kd.R_drew)); exact Kd.R_mono HO228.out (fun _ hk => hk.2)), ⟨_, rfl⟩, (by (with_reducible repeat (first | refine bN_ ?_ _ | refine bD_ ?_ | refine bA_ ?_ _)); exact BK216.out), (by (with_reducible repeat (first | refine bN_ ?_ _ | refine bD_ ?_ | refine bA_ ?_ _)); exact BK225.out), (by repeat (first | (with_reducible first | exact HI0.out | apply I81_.alloc | apply I81_.drewN | apply I81_.drew | apply I81_.set_1 | refine I81_.far ?_ NB0_216.out _ | refine I81_.far ?_ NB0_225.out _) | exact HI0.out)), (by repeat (first | (with_reducible first | exact HK.out | apply KeepBut.set_ | apply kN_ | apply kD_ | apply kA_ | refine kF_ ?_ GW216.out _ | refine kF_ ?_ GW225.out _) | exact HK.out)), (by repeat (first | (with_reducible first | exact HB.out | apply eA_ | apply pN_ | apply eD_ | refine eS_ ?_ (I81_.ge HI0.out) | refine eS_ ?_ GE216.out | refine eS_ ?_ GE225.out) | exact HB.out))⟩)
          ·skip
           refine goes_ Try.func53 (by kernel_rfl) rfl #[.pointer (some ⟨g, 0, none⟩), .int .i64 4] (by rfl) rfl rfl (by (try simp only [List.map_toArray, List.map_cons, List.map_nil]); first | done | rfl | (simp only [List.length_drop, List.length_take]; rfl)) ?_
           with_reducible refine (spec_l20Rd_pick.calls k g s0_0 t223 4 t229 t230 w0 _ ?side1 ?side2 A7.out).mono ?_
           (case side1 => repeat (first | (with_reducible first | exact HI0.out | apply I81_.alloc | apply I81_.drewN | apply I81_.drew | apply I81_.set_1 | refine I81_.far ?_ NB0_216.out _ | refine I81_.far ?_ NB0_225.out _) | exact HI0.out))
           (case side2 => repeat (first | (with_reducible first | exact HB.out | apply eA_ | apply pN_ | apply eD_ | refine eS_ ?_ (I81_.ge HI0.out) | refine eS_ ?_ GE216.out | refine eS_ ?_ GE225.out) | exact HB.out))
           rintro e w29 ⟨rfl, hi, hb, hk⟩
           refine ⟨_, rfl, ?_⟩
           have n0_ := Az_.mk (KeepBut.blk hk (g' := gb216) (o := .cells #[.int .i64 0, .int .i64 0] 26 (0, 0)) (by (with_reducible repeat (first | refine bN_ ?_ _ | refine bD_ ?_ | refine bA_ ?_ _)); exact BK216.out) NB216_0.out (by simp))
           have n1_ := Az_.mk (Kd.R_mono (Kd.R_keep (I81_.apart (show I81_ w0 _ g s0_0 t223 from by repeat (first | (with_reducible first | exact HI0.out | apply I81_.alloc | apply I81_.drewN | apply I81_.drew | apply I81_.set_1 | refine I81_.far ?_ NB0_216.out _ | refine I81_.far ?_ NB0_225.out _) | exact HI0.out)) (by (with_reducible repeat (first | apply Kd.R_alloc | apply Kd.R_drewN | apply Kd.R_drew)); exact HO221.out) (by decide)) hk (fun _ h => h.2)) (fun _ h => h.1))
           have n2_ := Az_.mk (KeepBut.blk hk (g' := gb225) (o := .cells #[.int .i64 (rd y219 t222), .int .i64 0] 26 (0, 0)) (by (with_reducible repeat (first | refine bN_ ?_ _ | refine bD_ ?_ | refine bA_ ?_ _)); exact BK225.out) NB225_0.out (by simp))
           have n3_ := Az_.mk (KeepBut.trans (by repeat (first | (with_reducible first | exact HK.out | apply KeepBut.set_ | apply kN_ | apply kD_ | apply kA_ | refine kF_ ?_ GW216.out _ | refine kF_ ?_ GW225.out _) | exact HK.out)) hk (.inl rfl))
           have n4_ := Az_.mk (hb)
           have n5_ := Az_.mk (hi)
           clear BK216
           clear HO221
           clear BK225
           clear HK
           clear HB
           clear HI0
           have BK216 := n0_
           have HO221 := n1_
           have BK225 := n2_
           have HK := n3_
           have HB := n4_
           have HI0 := n5_
           clear n0_ n1_ n2_ n3_ n4_ n5_
           (try clear hb)
           (try clear hb2)
           (try clear hk)
           (try clear hi)
           refine hK.out _ _ ⟨(bC_ BK225.out 0).trans rfl, (bC_ BK225.out 1).trans rfl⟩ (fun hHeld => ?_)
           clear hK K
           refine norm_ (a' := ?_) ?_ ?_
           rotate_left
           ·show Act.put _ (some 18) _ = _
            simp only [Act.put, List.setIfInBounds_toArray, List.set_cons_zero, List.set_cons_succ, i64_w, i32_w]
            rfl
           refine one_ (i := 2) (N := some 16) #[true, true, true, true, true, false, false, false, false, false] rfl rfl (one_of HT_.out (by kernel_rfl)) (by decide) (fun K hK => ?_)
           refine Kd.R_lit_step (Kd.int .i64) _ 3 ?hg (N := 16) ?hd (xs := ([1, 5, 10, 20] : List Int)) (inner := [.int .i64 1, .int .i64 5, .int .i64 10, .int .i64 20]) (ok := fun _ => True) (okp := fun _ => True) ?hr ?hp (fun _ hk => hk) trivial (Below.refl _ _) (Nat.le_refl _) (by simp) ?_; (case hd => rfl); (case hg => rfl); (case hr => first | (go_simp; done) | (go_simp; rfl)); (case hp => exact (Reps.one (show Kd.M (Kd.int .i64) _ _ _ 1 [.int .i64 1] from rfl) (Reps.one (show Kd.M (Kd.int .i64) _ _ _ 5 [.int .i64 5] from rfl) (Reps.one (show Kd.M (Kd.int .i64) _ _ _ 10 [.int .i64 10] from rfl) (Reps.one (show Kd.M (Kd.int .i64) _ _ _ 20 [.int .i64 20] from rfl) (Reps.none _ _))))))
           intro v227 w30 ho31 hb hg_ hnew_
           clear hg_ hnew_
           (first | rw [← Ny226.out] at ho31 | (simp only [Int.reduceToNat] at ho31; rw [← Ny226.out] at ho31))
           have n0_ := Az_.mk (Kd.R_elder' (by (with_reducible repeat (first | apply Kd.R_alloc | apply Kd.R_drewN | apply Kd.R_drew)); exact HO221.out) (Kd.R_base ho31) hb)
           have n1_ := Az_.mk (Kd.R_lower (Kd.R_new' ho31 (Kd.R_lt (by (with_reducible repeat (first | apply Kd.R_alloc | apply Kd.R_drewN | apply Kd.R_drew)); exact HO221.out))) (keep_size (w := w) (g := g) (row := none) (by repeat (first | (with_reducible first | exact HK.out | apply KeepBut.set_ | apply kN_ | apply kD_ | apply kA_ | refine kF_ ?_ GW216.out _ | refine kF_ ?_ GW225.out _) | exact HK.out))))
           have n2_ := Az_.mk (I81_.below (by repeat (first | (with_reducible first | exact HI0.out | apply I81_.alloc | apply I81_.drewN | apply I81_.drew | apply I81_.set_1 | refine I81_.far ?_ NB0_216.out _ | refine I81_.far ?_ NB0_225.out _) | exact HI0.out)) hb)
           have n3_ := Az_.mk (bB_ (g := gb216) (o := .cells #[.int .i64 0, .int .i64 0] 26 (0, 0)) (by (with_reducible repeat (first | refine bN_ ?_ _ | refine bD_ ?_ | refine bA_ ?_ _)); exact BK216.out) hb)
           have n4_ := Az_.mk (bB_ (g := gb225) (o := .cells #[.int .i64 (rd y219 t222), .int .i64 0] 26 (0, 0)) (by (with_reducible repeat (first | refine bN_ ?_ _ | refine bD_ ?_ | refine bA_ ?_ _)); exact BK225.out) hb)
           have n5_ := Az_.mk (KeepBut.trans (by repeat (first | (with_reducible first | exact HK.out | apply KeepBut.set_ | apply kN_ | apply kD_ | apply kA_ | refine kF_ ?_ GW216.out _ | refine kF_ ?_ GW225.out _) | exact HK.out)) (KeepBut.of_below hb g none) (.inl rfl))
           have n6_ := Az_.mk (below_step (by repeat (first | (with_reducible first | exact HB.out | apply eA_ | apply pN_ | apply eD_ | refine eS_ ?_ (I81_.ge HI0.out) | refine eS_ ?_ GE216.out | refine eS_ ?_ GE225.out) | exact HB.out)) hb)
           clear HO221
           clear HI0
           clear BK216
           clear BK225
           clear HK
           clear HB
           have HO221 := n0_
           have HO228 := n1_
           have HI0 := n2_
           have BK216 := n3_
           have BK225 := n4_
           have HK := n5_
           have HB := n6_
           clear n0_ n1_ n2_ n3_ n4_ n5_ n6_
           clear hb ho31
           obtain ⟨Ao32, co32, eo32⟩ := Kd.R_slice HO228.out
           subst eo32
           obtain ⟨ado32, fo32, _⟩ := Kd.at_int (Kd.R_reads' HO228.out).2.2 0 (by decide) (by rw [Ny226.out]; simp)
           cases fo32
           refine hK.out _ _ ⟨(bC_ BK225.out 0).trans rfl, (bC_ BK225.out 1).trans rfl⟩ (fun hHeld => ?_)
           clear hK K
           refine norm_ (a' := ?_) ?_ ?_
           rotate_left
           ·show Act.put _ (some 16) _ = _
            simp only [Act.put, List.setIfInBounds_toArray, List.set_cons_zero, List.set_cons_succ, i64_w, i32_w]
            rfl
           exact norm_ (by simp only [putAll, Act.put, List.setIfInBounds_toArray, List.set_cons_zero, List.set_cons_succ]) (hCont (.slice (some ado32) y226.length co32, ado32) _ ⟨hHeld, (by (with_reducible repeat (first | apply Kd.R_alloc | apply Kd.R_drewN | apply Kd.R_drew)); exact Kd.R_mono HO221.out (fun _ hk => hk.2)), (by (with_reducible repeat (first | apply Kd.R_alloc | apply Kd.R_drewN | apply Kd.R_drew)); exact Kd.R_mono HO228.out (fun _ hk => hk.2)), ⟨_, rfl⟩, (by (with_reducible repeat (first | refine bN_ ?_ _ | refine bD_ ?_ | refine bA_ ?_ _)); exact BK216.out), (by (with_reducible repeat (first | refine bN_ ?_ _ | refine bD_ ?_ | refine bA_ ?_ _)); exact BK225.out), (by repeat (first | (with_reducible first | exact HI0.out | apply I81_.alloc | apply I81_.drewN | apply I81_.drew | apply I81_.set_1 | refine I81_.far ?_ NB0_216.out _ | refine I81_.far ?_ NB0_225.out _) | exact HI0.out)), (by repeat (first | (with_reducible first | exact HK.out | apply KeepBut.set_ | apply kN_ | apply kD_ | apply kA_ | refine kF_ ?_ GW216.out _ | refine kF_ ?_ GW225.out _) | exact HK.out)), (by repeat (first | (with_reducible first | exact HB.out | apply eA_ | apply pN_ | apply eD_ | refine eS_ ?_ (I81_.ge HI0.out) | refine eS_ ?_ GE216.out | refine eS_ ?_ GE225.out) | exact HB.out))⟩)
         rintro ⟨v227, adz_v227⟩ w33 ⟨hS_, h0_, h1_, h2_, h3_, h4_, h5_, h6_, h7_⟩
         have n0_ : Az_ (Kd.R (Kd.int .i64) 3 w33 w.heap.size (fun k_ => some k_ ≠ (v227 : Value).ownBlock) (.slice (some ad224) y219.length co22) y219) := ⟨h0_⟩
         have n1_ : Az_ (Kd.R (Kd.int .i64) 3 w33 w.heap.size (fun k_ => some k_ ≠ (.slice (some ad224) y219.length co22 : Value).ownBlock) v227 y226) := ⟨h1_⟩
         have n2_ : Az_ (∃ c_, (v227 : Value) = .slice (some adz_v227) y226.length c_) := ⟨h2_⟩
         have n3_ : Az_ (w33.heap[gb216]? = some (.cells #[.int .i64 0, .int .i64 0] 26 (0, 0))) := ⟨h3_⟩
         have n4_ : Az_ (w33.heap[gb225]? = some (.cells #[.int .i64 (rd y219 t222), .int .i64 0] 26 (0, 0))) := ⟨h4_⟩
         have n5_ : Az_ (I81_ w0 w33 g s0_0 t230) := ⟨h5_⟩
         have n6_ : Az_ (KeepBut w w33 g none) := ⟨h6_⟩
         have n7_ : Az_ (Below w0.heap.size w0 w33) := ⟨h7_⟩
         clear HO221
         clear BK216
         clear BK225
         clear HI0
         clear HK
         clear HB
         clear h0_ h1_ h2_ h3_ h4_ h5_ h6_ h7_
         have HO221 := n0_
         have HO228 := n1_
         have HA_HO228 := n2_
         have BK216 := n3_
         have BK225 := n4_
         have HI0 := n5_
         have HK := n6_
         have HB := n7_
         clear n0_ n1_ n2_ n3_ n4_ n5_ n6_ n7_
         have hHeld : w33.cell? ⟨gb225, 0, none⟩ = some (.int .i64 (rd y219 t222)) ∧ w33.cell? ⟨gb225, 1, none⟩ = some (.int .i64 0) := hS_
         obtain ⟨co34, eo34⟩ := HA_HO228.out
         clear HA_HO228
         subst eo34
         refine norm_ (a' := ?_) ?_ ?_
         rotate_left
         ·simp only [putAll, Act.put, List.setIfInBounds_toArray, List.set_cons_zero, List.set_cons_succ]
          rfl
         refine pure_ (i := 5) (N := some 19) (v := ?_) (a' := ?_) #[true, true, true, true, true, true, false, false, false, false] rfl rfl (any_of HT_.out (by kernel_rfl)) (fun _ _ _ h => h) (Or.inl ⟨by rfl, ?_⟩) ?_ ?_
         rotate_left
         ·intro w'
          go_simp
          with_reducible rfl
         rotate_left
         ·simp only [Act.put, List.setIfInBounds_toArray, List.set_cons_zero, List.set_cons_succ, i64_w, i32_w]
          rfl
         refine one_ (i := 6) (N := some 20) #[true, true, true, true, true, true, true, false, false, false] rfl rfl (one_of HT_.out (by kernel_rfl)) (by decide) (fun K hK => ?_)
         (have p231 : 0 ≤ (t229 : Int) := of_decide_eq_true (by first | (with_reducible assumption) | assumption); have q231 : t229 < (y226.length : Int) := of_decide_eq_true (by first | (with_reducible assumption) | assumption); obtain ⟨ad231, e231, hx231_0⟩ := Kd.at_int (Kd.R_reads' HO228.out).2.2 t229 p231 q231; obtain rfl : adz_v227 = ad231 := (by injection e231))
         refine value_ (w1 := ?_) (v := ?_) (by rfl) rfl ?_ ?_
         rotate_left 2
         ·go_simp
          constructor
          ·rfl
          ·rfl
         clear hx231_0
         refine hK.out _ _ ⟨(bC_ BK225.out 0).trans rfl, (bC_ BK225.out 1).trans rfl⟩ (fun hHeld => ?_)
         clear hK K
         refine norm_ (a' := ?_) ?_ ?_
         rotate_left
         ·show Act.put _ (some 20) _ = _
          simp only [Act.put, List.setIfInBounds_toArray, List.set_cons_zero, List.set_cons_succ, i64_w, i32_w]
          rfl
         refine pure_ (i := 7) (N := some 21) (v := ?_) (a' := ?_) #[true, true, true, true, true, true, true, true, false, false] rfl rfl (any_of HT_.out (by kernel_rfl)) (fun _ _ _ h => h) (Or.inl ⟨by rfl, ?_⟩) ?_ ?_
         rotate_left
         ·intro w'
          go_simp
          with_reducible rfl
         rotate_left
         ·simp only [Act.put, List.setIfInBounds_toArray, List.set_cons_zero, List.set_cons_succ, i64_w, i32_w]
          rfl
         refine pure_ (i := 8) (N := some 22) (v := ?_) (a' := ?_) #[true, true, true, true, true, true, true, true, true, false] rfl rfl (any_of HT_.out (by kernel_rfl)) (fun _ _ _ h => h) (Or.inl ⟨by rfl, ?_⟩) ?_ ?_
         rotate_left
         ·intro w'
          go_simp
          with_reducible rfl
         rotate_left
         ·simp only [Act.put, List.setIfInBounds_toArray, List.set_cons_zero, List.set_cons_succ, i64_w, i32_w]
          rfl
         refine last_ (i := 9) (N := none) #[true, true, true, true, true, true, true, true, true, true] rfl rfl (one_of HT_.out (by kernel_rfl)) (by decide) (fun K hK => ?_)
         have hs35 : w33.cell? ⟨gb225, 1, none⟩ = some (.int .i64 0) := (bC_ BK225.out 1).trans rfl
         have hfs35 := bF_ BK225.out 1
         have hns35_0 := NB216_225.out
         have hms35_0 := NB225_216.out
         refine skip_ (w1 := ?_) (by rfl) rfl ?_ ?_
         rotate_left
         ·go_simp
          rfl
         refine hK.out _ _ ?_
         clear hK K
         refine done_ (done_of HT_.out (by kernel_rfl)) ?_
         try go_wp2_with (first | ((with_reducible refine gate_callee (f := 53) rfl ?_); refine goesL_ (some 25) rfl rfl Try.func53 (by kernel_rfl) rfl #[.pointer (some ⟨g, 0, none⟩), .int .i64 a1] rfl (by (try simp only [List.map_toArray, List.map_cons, List.map_nil]); first | done | rfl | (simp only [List.length_drop, List.length_take]; rfl)) ?_; (with_reducible refine (spec_l20Rd_pick.calls k g s0_0 t230 a1 t232 t233 w0 _ ?side1 ?side2 A10.out).mono ?_); (case side1 => repeat (first | (with_reducible first | exact HI0.out | apply I81_.alloc | apply I81_.drewN | apply I81_.drew | apply I81_.set_1 | refine I81_.far ?_ NB0_216.out _ | refine I81_.far ?_ NB0_225.out _) | exact HI0.out)); (case side2 => repeat (first | (with_reducible first | exact HB.out | apply eA_ | apply pN_ | apply eD_ | refine eS_ ?_ (I81_.ge HI0.out) | refine eS_ ?_ GE216.out | refine eS_ ?_ GE225.out) | exact HB.out)); rintro e w36 ⟨rfl, hi, hb, hk⟩; refine ⟨_, rfl, ?_⟩; have n0_ := Az_.mk (KeepBut.blk hk (g' := gb216) (o := .cells #[.int .i64 0, .int .i64 0] 26 (0, 0)) (by (with_reducible repeat (first | refine bN_ ?_ _ | refine bD_ ?_ | refine bA_ ?_ _)); refine bR_ ?_ NB216_225.out _; (with_reducible repeat (first | refine bN_ ?_ _ | refine bD_ ?_ | refine bA_ ?_ _)); exact BK216.out) NB216_0.out (by simp)); have n1_ := Az_.mk (Kd.R_mono (Kd.R_keep (I81_.apart (show I81_ w0 _ g s0_0 t230 from by repeat (first | (with_reducible first | exact HI0.out | apply I81_.alloc | apply I81_.drewN | apply I81_.drew | apply I81_.set_1 | refine I81_.far ?_ NB0_216.out _ | refine I81_.far ?_ NB0_225.out _) | exact HI0.out)) (by (with_reducible repeat (first | apply Kd.R_alloc | apply Kd.R_drewN | apply Kd.R_drew)); exact (Kd.R_mono (Kd.R_far (p := ⟨gb225, 1, none⟩) (Kd.R_types HO221.out BK225.out (by decide)) (fun _ hk => hk.2) (.int .i64 (wrap64 ((rd y219 t222) + (rd y226 t229))))) (fun _ h_ => h_.1))) (by decide)) hk (fun _ h => h.2)) (fun _ h => h.1)); have n2_ := Az_.mk (KeepBut.blk hk (g' := gb225) (o := .cells #[.int .i64 (rd y219 t222), .int .i64 (wrap64 ((rd y219 t222) + (rd y226 t229)))] 26 (0, 0)) (by (with_reducible repeat (first | refine bN_ ?_ _ | refine bD_ ?_ | refine bA_ ?_ _)); refine bP_ (cs := #[.int .i64 (rd y219 t222), .int .i64 0]) ?_ 1 _ rfl; (with_reducible repeat (first | refine bN_ ?_ _ | refine bD_ ?_ | refine bA_ ?_ _)); exact BK225.out) NB225_0.out (by simp)); have n3_ := Az_.mk (Kd.R_mono (Kd.R_keep (I81_.apart (show I81_ w0 _ g s0_0 t230 from by repeat (first | (with_reducible first | exact HI0.out | apply I81_.alloc | apply I81_.drewN | apply I81_.drew | apply I81_.set_1 | refine I81_.far ?_ NB0_216.out _ | refine I81_.far ?_ NB0_225.out _) | exact HI0.out)) (by (with_reducible repeat (first | apply Kd.R_alloc | apply Kd.R_drewN | apply Kd.R_drew)); exact (Kd.R_mono (Kd.R_far (p := ⟨gb225, 1, none⟩) (Kd.R_types HO228.out BK225.out (by decide)) (fun _ hk => hk.2) (.int .i64 (wrap64 ((rd y219 t222) + (rd y226 t229))))) (fun _ h_ => h_.1))) (by decide)) hk (fun _ h => h.2)) (fun _ h => h.1)); have n4_ := Az_.mk (KeepBut.trans (by repeat (first | (with_reducible first | exact HK.out | apply KeepBut.set_ | apply kN_ | apply kD_ | apply kA_ | refine kF_ ?_ GW216.out _ | refine kF_ ?_ GW225.out _) | exact HK.out)) hk (.inl rfl)); have n5_ := Az_.mk (hb); have n6_ := Az_.mk (hi); clear BK216; clear HO221; clear BK225; clear HO228; clear HK; clear HB; clear HI0; have BK216 := n0_; have HO221 := n1_; have BK225 := n2_; have HO228 := n3_; have HK := n4_; have HB := n5_; have HI0 := n6_; clear n0_ n1_ n2_ n3_ n4_ n5_ n6_; (try clear hb); (try clear hb2); (try clear hk); (try clear hi)) | ((with_reducible refine gate_callee (f := 53) rfl ?_); refine goesL_ (some 28) rfl rfl Try.func53 (by kernel_rfl) rfl #[.pointer (some ⟨g, 0, none⟩), .int .i64 2] rfl (by (try simp only [List.map_toArray, List.map_cons, List.map_nil]); first | done | rfl | (simp only [List.length_drop, List.length_take]; rfl)) ?_; (with_reducible refine (spec_l20Rd_pick.calls k g s0_0 t233 2 t234 t235 w0 _ ?side1 ?side2 A12.out).mono ?_); (case side1 => repeat (first | (with_reducible first | exact HI0.out | apply I81_.alloc | apply I81_.drewN | apply I81_.drew | apply I81_.set_1 | refine I81_.far ?_ NB0_216.out _ | refine I81_.far ?_ NB0_225.out _) | exact HI0.out)); (case side2 => repeat (first | (with_reducible first | exact HB.out | apply eA_ | apply pN_ | apply eD_ | refine eS_ ?_ (I81_.ge HI0.out) | refine eS_ ?_ GE216.out | refine eS_ ?_ GE225.out) | exact HB.out)); rintro e w37 ⟨rfl, hi, hb, hk⟩; refine ⟨_, rfl, ?_⟩; have n0_ := Az_.mk (KeepBut.blk hk (g' := gb216) (o := .cells #[.int .i64 0, .int .i64 0] 26 (0, 0)) (by (with_reducible repeat (first | refine bN_ ?_ _ | refine bD_ ?_ | refine bA_ ?_ _)); exact BK216.out) NB216_0.out (by simp)); have n1_ := Az_.mk (Kd.R_mono (Kd.R_keep (I81_.apart (show I81_ w0 _ g s0_0 t233 from by repeat (first | (with_reducible first | exact HI0.out | apply I81_.alloc | apply I81_.drewN | apply I81_.drew | apply I81_.set_1 | refine I81_.far ?_ NB0_216.out _ | refine I81_.far ?_ NB0_225.out _) | exact HI0.out)) (by (with_reducible repeat (first | apply Kd.R_alloc | apply Kd.R_drewN | apply Kd.R_drew)); exact HO221.out) (by decide)) hk (fun _ h => h.2)) (fun _ h => h.1)); have n2_ := Az_.mk (KeepBut.blk hk (g' := gb225) (o := .cells #[.int .i64 (rd y219 t222), .int .i64 (wrap64 ((rd y219 t222) + (rd y226 t229)))] 26 (0, 0)) (by (with_reducible repeat (first | refine bN_ ?_ _ | refine bD_ ?_ | refine bA_ ?_ _)); exact BK225.out) NB225_0.out (by simp)); have n3_ := Az_.mk (Kd.R_mono (Kd.R_keep (I81_.apart (show I81_ w0 _ g s0_0 t233 from by repeat (first | (with_reducible first | exact HI0.out | apply I81_.alloc | apply I81_.drewN | apply I81_.drew | apply I81_.set_1 | refine I81_.far ?_ NB0_216.out _ | refine I81_.far ?_ NB0_225.out _) | exact HI0.out)) (by (with_reducible repeat (first | apply Kd.R_alloc | apply Kd.R_drewN | apply Kd.R_drew)); exact HO228.out) (by decide)) hk (fun _ h => h.2)) (fun _ h => h.1)); have n4_ := Az_.mk (KeepBut.trans (by repeat (first | (with_reducible first | exact HK.out | apply KeepBut.set_ | apply kN_ | apply kD_ | apply kA_ | refine kF_ ?_ GW216.out _ | refine kF_ ?_ GW225.out _) | exact HK.out)) hk (.inl rfl)); have n5_ := Az_.mk (hb); have n6_ := Az_.mk (hi); clear BK216; clear HO221; clear BK225; clear HO228; clear HK; clear HB; clear HI0; have BK216 := n0_; have HO221 := n1_; have BK225 := n2_; have HO228 := n3_; have HK := n4_; have HB := n5_; have HI0 := n6_; clear n0_ n1_ n2_ n3_ n4_ n5_ n6_; (try clear hb); (try clear hb2); (try clear hk); (try clear hi)))
         have pi241 : (0 ≤ (t239 : Int)) = True := eq_true (of_decide_eq_true (by first | (with_reducible assumption) | assumption))
         have qi241 : (t239 < (y236.length : Int)) = True := eq_true (of_decide_eq_true (by first | (with_reducible assumption) | assumption))
         have n0_ := Az_.mk (Kd.R_drew HO221.out)
         have n1_ := Az_.mk (Kd.R_drew HO228.out)
         have n2_ := Az_.mk (bD_ BK216.out)
         have n3_ := Az_.mk (bD_ BK225.out)
         have n4_ := Az_.mk (I81_.drew HI0.out)
         have n5_ := Az_.mk (kD_ HK.out)
         have n6_ := Az_.mk (eD_ HB.out)
         clear HO221
         clear HO228
         clear BK216
         clear BK225
         clear HI0
         clear HK
         clear HB
         have HO221 := n0_
         have HO228 := n1_
         have BK216 := n2_
         have BK225 := n3_
         have HI0 := n4_
         have HK := n5_
         have HB := n6_
         clear n0_ n1_ n2_ n3_ n4_ n5_ n6_
         refine start_ (n := 9) (S := fun w' => w'.cell? ⟨gb225, 0, none⟩ = some (.int .i64 (rd y219 t222)) ∧ w'.cell? ⟨gb225, 1, none⟩ = some (.int .i64 (wrap64 ((rd y219 t222) + (rd y226 t229))))) (ds := [8]) #[false, false, false, false, false, false, false, false, false] (by kernel_rfl) rfl rfl ⟨(bC_ BK225.out 0).trans rfl, (bC_ BK225.out 1).trans rfl⟩ (fun hHeld => ?_); refine with_tabW spec_l20Win.tab5 spec_l20Win.bits5 (fun HT_ HW_ => ?_)
         generalize w37.drew = w38 at HO221 HO228 BK216 BK225 HI0 HK HB hHeld ⊢
         refine pure_ (i := 0) (N := some 30) (v := ?_) (a' := ?_) #[true, false, false, false, false, false, false, false, false] rfl rfl (any_of HT_.out (by kernel_rfl)) (fun _ _ _ h => h) (Or.inl ⟨by rfl, ?_⟩) ?_ ?_
         rotate_left
         ·intro w'
          go_simp
          with_reducible rfl
         rotate_left
         ·simp only [Act.put, List.setIfInBounds_toArray, List.set_cons_zero, List.set_cons_succ, i64_w, i32_w]
          rfl
         refine pure_ (i := 3) (N := some 33) (v := ?_) (a' := ?_) #[true, false, false, true, false, false, false, false, false] rfl rfl (any_of HT_.out (by kernel_rfl)) (fun _ _ _ h => h) (Or.inl ⟨by rfl, ?_⟩) ?_ ?_
         rotate_left
         ·intro w'
          go_simp
          with_reducible rfl
         rotate_left
         ·simp only [Act.put, List.setIfInBounds_toArray, List.set_cons_zero, List.set_cons_succ, i64_w, i32_w]
          rfl
         refine take_ (i := 1) (N := some 31) (v := ?_) (a' := ?_) #[true, true, false, true, false, false, false, false, false] rfl rfl (take_ofW HT_.out HW_.out (by kernel_rfl)) (fun _ _ _ h => h) (Or.inl ⟨by rfl, ?_⟩) hHeld ?_ ?_
         rotate_left
         ·rintro w' ⟨s0, s1⟩
          go_simp
          with_reducible rfl
         rotate_left
         ·simp only [Act.put, List.setIfInBounds_toArray, List.set_cons_zero, List.set_cons_succ, i64_w, i32_w]
          rfl
         refine join_ (σ := Value × Addr) 4 #[true, true, true, true, true, false, false, false, false] (fun s_ => [(32, s_.1), (34, .int .i64 t239)]) (fun s_ w' => (w'.cell? ⟨gb225, 0, none⟩ = some (.int .i64 (rd y219 t222)) ∧ w'.cell? ⟨gb225, 1, none⟩ = some (.int .i64 (wrap64 ((rd y219 t222) + (rd y226 t229))))) ∧ (Kd.R (Kd.int .i64) 3 w' w.heap.size (fun k_ => some k_ ≠ (.slice (some adz_v227) y226.length co34 : Value).ownBlock ∧ some k_ ≠ (s_.1 : Value).ownBlock) (.slice (some ad224) y219.length co22) y219) ∧ (Kd.R (Kd.int .i64) 3 w' w.heap.size (fun k_ => some k_ ≠ (.slice (some ad224) y219.length co22 : Value).ownBlock ∧ some k_ ≠ (s_.1 : Value).ownBlock) (.slice (some adz_v227) y226.length co34) y226) ∧ (Kd.R (Kd.int .i64) 3 w' w.heap.size (fun k_ => some k_ ≠ (.slice (some ad224) y219.length co22 : Value).ownBlock ∧ some k_ ≠ (.slice (some adz_v227) y226.length co34 : Value).ownBlock) s_.1 y236) ∧ (∃ c_, (s_.1 : Value) = .slice (some s_.2) y236.length c_) ∧ (w'.heap[gb216]? = some (.cells #[.int .i64 0, .int .i64 0] 26 (0, 0))) ∧ (w'.heap[gb225]? = some (.cells #[.int .i64 (rd y219 t222), .int .i64 (wrap64 ((rd y219 t222) + (rd y226 t229)))] 26 (0, 0))) ∧ (I81_ w0 w' g s0_0 t240) ∧ (KeepBut w w' g none) ∧ (Below w0.heap.size w0 w')) ?_ ?_
         rotate_left
         ·intro hCont
          refine two_ (i := 2) (j := 4) (Ni := some 32) (Nj := some 34) #[true, true, true, true, false, false, false, false, false] #[true, true, false, true, true, false, false, false, false] rfl rfl rfl rfl (two_of HT_.out (by kernel_rfl)) (by decide) (by decide) (fun K hK => ?_) (fun K hK => ?_)
          ·skip
           refine Kd.R_lit_step (Kd.int .i64) _ 3 ?hg (N := 32) ?hd (xs := ([(-1), 61, wrap64 ((rd y219 t222) + (rd y226 t229))] : List Int)) (inner := [.int .i64 (-1), .int .i64 61, .int .i64 (wrap64 ((rd y219 t222) + (rd y226 t229)))]) (ok := fun _ => True) (okp := fun _ => True) ?hr ?hp (fun _ hk => hk) trivial (Below.refl _ _) (Nat.le_refl _) (by simp) ?_; (case hd => rfl); (case hg => rfl); (case hr => first | (go_simp; done) | (go_simp; rfl)); (case hp => exact (Reps.one (show Kd.M (Kd.int .i64) _ _ _ (-1) [.int .i64 (-1)] from rfl) (Reps.one (show Kd.M (Kd.int .i64) _ _ _ 61 [.int .i64 61] from rfl) (Reps.one (show Kd.M (Kd.int .i64) _ _ _ (wrap64 ((rd y219 t222) + (rd y226 t229))) [.int .i64 (wrap64 ((rd y219 t222) + (rd y226 t229)))] from rfl) (Reps.none _ _)))))
           intro v237 w39 ho40 hb hg_ hnew_
           clear hg_ hnew_
           (first | rw [← Ny236.out] at ho40 | (simp only [Int.reduceToNat] at ho40; rw [← Ny236.out] at ho40))
           have n0_ := Az_.mk (Kd.R_elder' (by (with_reducible repeat (first | apply Kd.R_alloc | apply Kd.R_drewN | apply Kd.R_drew)); exact HO221.out) (Kd.R_base ho40) hb)
           have n1_ := Az_.mk (Kd.R_elder' (by (with_reducible repeat (first | apply Kd.R_alloc | apply Kd.R_drewN | apply Kd.R_drew)); exact HO228.out) (Kd.R_base ho40) hb)
           have n2_ := Az_.mk (Kd.R_lower (Kd.R_new' (Kd.R_new' ho40 (Kd.R_lt (by (with_reducible repeat (first | apply Kd.R_alloc | apply Kd.R_drewN | apply Kd.R_drew)); exact HO221.out))) (Kd.R_lt (by (with_reducible repeat (first | apply Kd.R_alloc | apply Kd.R_drewN | apply Kd.R_drew)); exact HO228.out))) (keep_size (w := w) (g := g) (row := none) (by repeat (first | (with_reducible first | exact HK.out | apply KeepBut.set_ | apply kN_ | apply kD_ | apply kA_ | refine kF_ ?_ GW216.out _ | refine kF_ ?_ GW225.out _) | exact HK.out))))
           have n3_ := Az_.mk (I81_.below (by repeat (first | (with_reducible first | exact HI0.out | apply I81_.alloc | apply I81_.drewN | apply I81_.drew | apply I81_.set_1 | refine I81_.far ?_ NB0_216.out _ | refine I81_.far ?_ NB0_225.out _) | exact HI0.out)) hb)
           have n4_ := Az_.mk (bB_ (g := gb216) (o := .cells #[.int .i64 0, .int .i64 0] 26 (0, 0)) (by (with_reducible repeat (first | refine bN_ ?_ _ | refine bD_ ?_ | refine bA_ ?_ _)); exact BK216.out) hb)
           have n5_ := Az_.mk (bB_ (g := gb225) (o := .cells #[.int .i64 (rd y219 t222), .int .i64 (wrap64 ((rd y219 t222) + (rd y226 t229)))] 26 (0, 0)) (by (with_reducible repeat (first | refine bN_ ?_ _ | refine bD_ ?_ | refine bA_ ?_ _)); exact BK225.out) hb)
           have n6_ := Az_.mk (KeepBut.trans (by repeat (first | (with_reducible first | exact HK.out | apply KeepBut.set_ | apply kN_ | apply kD_ | apply kA_ | refine kF_ ?_ GW216.out _ | refine kF_ ?_ GW225.out _) | exact HK.out)) (KeepBut.of_below hb g none) (.inl rfl))
           have n7_ := Az_.mk (below_step (by repeat (first | (with_reducible first | exact HB.out | apply eA_ | apply pN_ | apply eD_ | refine eS_ ?_ (I81_.ge HI0.out) | refine eS_ ?_ GE216.out | refine eS_ ?_ GE225.out) | exact HB.out)) hb)
           clear HO221
           clear HO228
           clear HI0
           clear BK216
           clear BK225
           clear HK
           clear HB
           have HO221 := n0_
           have HO228 := n1_
           have HO238 := n2_
           have HI0 := n3_
           have BK216 := n4_
           have BK225 := n5_
           have HK := n6_
           have HB := n7_
           clear n0_ n1_ n2_ n3_ n4_ n5_ n6_ n7_
           clear hb ho40
           obtain ⟨Ao41, co41, eo41⟩ := Kd.R_slice HO238.out
           subst eo41
           obtain ⟨ado41, fo41, _⟩ := Kd.at_int (Kd.R_reads' HO238.out).2.2 0 (by decide) (by rw [Ny236.out]; simp)
           cases fo41
           refine hK.out _ _ ⟨(bC_ BK225.out 0).trans rfl, (bC_ BK225.out 1).trans rfl⟩ (fun hHeld => ?_)
           clear hK K
           refine norm_ (a' := ?_) ?_ ?_
           rotate_left
           ·show Act.put _ (some 32) _ = _
            simp only [Act.put, List.setIfInBounds_toArray, List.set_cons_zero, List.set_cons_succ, i64_w, i32_w]
            rfl
           refine one_ (i := 4) (N := some 34) #[true, true, true, true, true, false, false, false, false] rfl rfl (one_of HT_.out (by kernel_rfl)) (by decide) (fun K hK => ?_)
           refine goes_ Try.func53 (by kernel_rfl) rfl #[.pointer (some ⟨g, 0, none⟩), .int .i64 3] (by rfl) rfl rfl (by (try simp only [List.map_toArray, List.map_cons, List.map_nil]); first | done | rfl | (simp only [List.length_drop, List.length_take]; rfl)) ?_
           with_reducible refine (spec_l20Rd_pick.calls k g s0_0 t235 3 t239 t240 w0 _ ?side1 ?side2 A14.out).mono ?_
           (case side1 => repeat (first | (with_reducible first | exact HI0.out | apply I81_.alloc | apply I81_.drewN | apply I81_.drew | apply I81_.set_1 | refine I81_.far ?_ NB0_216.out _ | refine I81_.far ?_ NB0_225.out _) | exact HI0.out))
           (case side2 => repeat (first | (with_reducible first | exact HB.out | apply eA_ | apply pN_ | apply eD_ | refine eS_ ?_ (I81_.ge HI0.out) | refine eS_ ?_ GE216.out | refine eS_ ?_ GE225.out) | exact HB.out))
           rintro e w42 ⟨rfl, hi, hb, hk⟩
           refine ⟨_, rfl, ?_⟩
           have n0_ := Az_.mk (KeepBut.blk hk (g' := gb216) (o := .cells #[.int .i64 0, .int .i64 0] 26 (0, 0)) (by (with_reducible repeat (first | refine bN_ ?_ _ | refine bD_ ?_ | refine bA_ ?_ _)); exact BK216.out) NB216_0.out (by simp))
           have n1_ := Az_.mk (Kd.R_mono (Kd.R_keep (I81_.apart (show I81_ w0 _ g s0_0 t235 from by repeat (first | (with_reducible first | exact HI0.out | apply I81_.alloc | apply I81_.drewN | apply I81_.drew | apply I81_.set_1 | refine I81_.far ?_ NB0_216.out _ | refine I81_.far ?_ NB0_225.out _) | exact HI0.out)) (by (with_reducible repeat (first | apply Kd.R_alloc | apply Kd.R_drewN | apply Kd.R_drew)); exact HO221.out) (by decide)) hk (fun _ h => h.2)) (fun _ h => h.1))
           have n2_ := Az_.mk (KeepBut.blk hk (g' := gb225) (o := .cells #[.int .i64 (rd y219 t222), .int .i64 (wrap64 ((rd y219 t222) + (rd y226 t229)))] 26 (0, 0)) (by (with_reducible repeat (first | refine bN_ ?_ _ | refine bD_ ?_ | refine bA_ ?_ _)); exact BK225.out) NB225_0.out (by simp))
           have n3_ := Az_.mk (Kd.R_mono (Kd.R_keep (I81_.apart (show I81_ w0 _ g s0_0 t235 from by repeat (first | (with_reducible first | exact HI0.out | apply I81_.alloc | apply I81_.drewN | apply I81_.drew | apply I81_.set_1 | refine I81_.far ?_ NB0_216.out _ | refine I81_.far ?_ NB0_225.out _) | exact HI0.out)) (by (with_reducible repeat (first | apply Kd.R_alloc | apply Kd.R_drewN | apply Kd.R_drew)); exact HO228.out) (by decide)) hk (fun _ h => h.2)) (fun _ h => h.1))
           have n4_ := Az_.mk (Kd.R_mono (Kd.R_keep (I81_.apart (show I81_ w0 _ g s0_0 t235 from by repeat (first | (with_reducible first | exact HI0.out | apply I81_.alloc | apply I81_.drewN | apply I81_.drew | apply I81_.set_1 | refine I81_.far ?_ NB0_216.out _ | refine I81_.far ?_ NB0_225.out _) | exact HI0.out)) (by (with_reducible repeat (first | apply Kd.R_alloc | apply Kd.R_drewN | apply Kd.R_drew)); exact HO238.out) (by decide)) hk (fun _ h => h.2)) (fun _ h => h.1))
           have n5_ := Az_.mk (KeepBut.trans (by repeat (first | (with_reducible first | exact HK.out | apply KeepBut.set_ | apply kN_ | apply kD_ | apply kA_ | refine kF_ ?_ GW216.out _ | refine kF_ ?_ GW225.out _) | exact HK.out)) hk (.inl rfl))
           have n6_ := Az_.mk (hb)
           have n7_ := Az_.mk (hi)
           clear BK216
           clear HO221
           clear BK225
           clear HO228
           clear HO238
           clear HK
           clear HB
           clear HI0
           have BK216 := n0_
           have HO221 := n1_
           have BK225 := n2_
           have HO228 := n3_
           have HO238 := n4_
           have HK := n5_
           have HB := n6_
           have HI0 := n7_
           clear n0_ n1_ n2_ n3_ n4_ n5_ n6_ n7_
           (try clear hb)
           (try clear hb2)
           (try clear hk)
           (try clear hi)
           refine hK.out _ _ ⟨(bC_ BK225.out 0).trans rfl, (bC_ BK225.out 1).trans rfl⟩ (fun hHeld => ?_)
           clear hK K
           refine norm_ (a' := ?_) ?_ ?_
           rotate_left
           ·show Act.put _ (some 34) _ = _
            simp only [Act.put, List.setIfInBounds_toArray, List.set_cons_zero, List.set_cons_succ, i64_w, i32_w]
            rfl
           exact norm_ (by simp only [putAll, Act.put, List.setIfInBounds_toArray, List.set_cons_zero, List.set_cons_succ]) (hCont (.slice (some ado41) y236.length co41, ado41) _ ⟨hHeld, (by (with_reducible repeat (first | apply Kd.R_alloc | apply Kd.R_drewN | apply Kd.R_drew)); exact HO221.out), (by (with_reducible repeat (first | apply Kd.R_alloc | apply Kd.R_drewN | apply Kd.R_drew)); exact HO228.out), (by (with_reducible repeat (first | apply Kd.R_alloc | apply Kd.R_drewN | apply Kd.R_drew)); exact Kd.R_mono HO238.out (fun _ hk => ⟨hk.1.2, hk.2⟩)), ⟨_, rfl⟩, (by (with_reducible repeat (first | refine bN_ ?_ _ | refine bD_ ?_ | refine bA_ ?_ _)); exact BK216.out), (by (with_reducible repeat (first | refine bN_ ?_ _ | refine bD_ ?_ | refine bA_ ?_ _)); exact BK225.out), (by repeat (first | (with_reducible first | exact HI0.out | apply I81_.alloc | apply I81_.drewN | apply I81_.drew | apply I81_.set_1 | refine I81_.far ?_ NB0_216.out _ | refine I81_.far ?_ NB0_225.out _) | exact HI0.out)), (by repeat (first | (with_reducible first | exact HK.out | apply KeepBut.set_ | apply kN_ | apply kD_ | apply kA_ | refine kF_ ?_ GW216.out _ | refine kF_ ?_ GW225.out _) | exact HK.out)), (by repeat (first | (with_reducible first | exact HB.out | apply eA_ | apply pN_ | apply eD_ | refine eS_ ?_ (I81_.ge HI0.out) | refine eS_ ?_ GE216.out | refine eS_ ?_ GE225.out) | exact HB.out))⟩)
          ·skip
           refine goes_ Try.func53 (by kernel_rfl) rfl #[.pointer (some ⟨g, 0, none⟩), .int .i64 3] (by rfl) rfl rfl (by (try simp only [List.map_toArray, List.map_cons, List.map_nil]); first | done | rfl | (simp only [List.length_drop, List.length_take]; rfl)) ?_
           with_reducible refine (spec_l20Rd_pick.calls k g s0_0 t235 3 t239 t240 w0 _ ?side1 ?side2 A14.out).mono ?_
           (case side1 => repeat (first | (with_reducible first | exact HI0.out | apply I81_.alloc | apply I81_.drewN | apply I81_.drew | apply I81_.set_1 | refine I81_.far ?_ NB0_216.out _ | refine I81_.far ?_ NB0_225.out _) | exact HI0.out))
           (case side2 => repeat (first | (with_reducible first | exact HB.out | apply eA_ | apply pN_ | apply eD_ | refine eS_ ?_ (I81_.ge HI0.out) | refine eS_ ?_ GE216.out | refine eS_ ?_ GE225.out) | exact HB.out))
           rintro e w39 ⟨rfl, hi, hb, hk⟩
           refine ⟨_, rfl, ?_⟩
           have n0_ := Az_.mk (KeepBut.blk hk (g' := gb216) (o := .cells #[.int .i64 0, .int .i64 0] 26 (0, 0)) (by (with_reducible repeat (first | refine bN_ ?_ _ | refine bD_ ?_ | refine bA_ ?_ _)); exact BK216.out) NB216_0.out (by simp))
           have n1_ := Az_.mk (Kd.R_mono (Kd.R_keep (I81_.apart (show I81_ w0 _ g s0_0 t235 from by repeat (first | (with_reducible first | exact HI0.out | apply I81_.alloc | apply I81_.drewN | apply I81_.drew | apply I81_.set_1 | refine I81_.far ?_ NB0_216.out _ | refine I81_.far ?_ NB0_225.out _) | exact HI0.out)) (by (with_reducible repeat (first | apply Kd.R_alloc | apply Kd.R_drewN | apply Kd.R_drew)); exact HO221.out) (by decide)) hk (fun _ h => h.2)) (fun _ h => h.1))
           have n2_ := Az_.mk (KeepBut.blk hk (g' := gb225) (o := .cells #[.int .i64 (rd y219 t222), .int .i64 (wrap64 ((rd y219 t222) + (rd y226 t229)))] 26 (0, 0)) (by (with_reducible repeat (first | refine bN_ ?_ _ | refine bD_ ?_ | refine bA_ ?_ _)); exact BK225.out) NB225_0.out (by simp))
           have n3_ := Az_.mk (Kd.R_mono (Kd.R_keep (I81_.apart (show I81_ w0 _ g s0_0 t235 from by repeat (first | (with_reducible first | exact HI0.out | apply I81_.alloc | apply I81_.drewN | apply I81_.drew | apply I81_.set_1 | refine I81_.far ?_ NB0_216.out _ | refine I81_.far ?_ NB0_225.out _) | exact HI0.out)) (by (with_reducible repeat (first | apply Kd.R_alloc | apply Kd.R_drewN | apply Kd.R_drew)); exact HO228.out) (by decide)) hk (fun _ h => h.2)) (fun _ h => h.1))
           have n4_ := Az_.mk (KeepBut.trans (by repeat (first | (with_reducible first | exact HK.out | apply KeepBut.set_ | apply kN_ | apply kD_ | apply kA_ | refine kF_ ?_ GW216.out _ | refine kF_ ?_ GW225.out _) | exact HK.out)) hk (.inl rfl))
           have n5_ := Az_.mk (hb)
           have n6_ := Az_.mk (hi)
           clear BK216
           clear HO221
           clear BK225
           clear HO228
           clear HK
           clear HB
           clear HI0
           have BK216 := n0_
           have HO221 := n1_
           have BK225 := n2_
           have HO228 := n3_
           have HK := n4_
           have HB := n5_
           have HI0 := n6_
           clear n0_ n1_ n2_ n3_ n4_ n5_ n6_
           (try clear hb)
           (try clear hb2)
           (try clear hk)
           (try clear hi)
           refine hK.out _ _ ⟨(bC_ BK225.out 0).trans rfl, (bC_ BK225.out 1).trans rfl⟩ (fun hHeld => ?_)
           clear hK K
           refine norm_ (a' := ?_) ?_ ?_
           rotate_left
           ·show Act.put _ (some 34) _ = _
            simp only [Act.put, List.setIfInBounds_toArray, List.set_cons_zero, List.set_cons_succ, i64_w, i32_w]
            rfl
           refine one_ (i := 2) (N := some 32) #[true, true, true, true, true, false, false, false, false] rfl rfl (one_of HT_.out (by kernel_rfl)) (by decide) (fun K hK => ?_)
           refine Kd.R_lit_step (Kd.int .i64) _ 3 ?hg (N := 32) ?hd (xs := ([(-1), 61, wrap64 ((rd y219 t222) + (rd y226 t229))] : List Int)) (inner := [.int .i64 (-1), .int .i64 61, .int .i64 (wrap64 ((rd y219 t222) + (rd y226 t229)))]) (ok := fun _ => True) (okp := fun _ => True) ?hr ?hp (fun _ hk => hk) trivial (Below.refl _ _) (Nat.le_refl _) (by simp) ?_; (case hd => rfl); (case hg => rfl); (case hr => first | (go_simp; done) | (go_simp; rfl)); (case hp => exact (Reps.one (show Kd.M (Kd.int .i64) _ _ _ (-1) [.int .i64 (-1)] from rfl) (Reps.one (show Kd.M (Kd.int .i64) _ _ _ 61 [.int .i64 61] from rfl) (Reps.one (show Kd.M (Kd.int .i64) _ _ _ (wrap64 ((rd y219 t222) + (rd y226 t229))) [.int .i64 (wrap64 ((rd y219 t222) + (rd y226 t229)))] from rfl) (Reps.none _ _)))))
           intro v237 w40 ho41 hb hg_ hnew_
           clear hg_ hnew_
           (first | rw [← Ny236.out] at ho41 | (simp only [Int.reduceToNat] at ho41; rw [← Ny236.out] at ho41))
           have n0_ := Az_.mk (Kd.R_elder' (by (with_reducible repeat (first | apply Kd.R_alloc | apply Kd.R_drewN | apply Kd.R_drew)); exact HO221.out) (Kd.R_base ho41) hb)
           have n1_ := Az_.mk (Kd.R_elder' (by (with_reducible repeat (first | apply Kd.R_alloc | apply Kd.R_drewN | apply Kd.R_drew)); exact HO228.out) (Kd.R_base ho41) hb)
           have n2_ := Az_.mk (Kd.R_lower (Kd.R_new' (Kd.R_new' ho41 (Kd.R_lt (by (with_reducible repeat (first | apply Kd.R_alloc | apply Kd.R_drewN | apply Kd.R_drew)); exact HO221.out))) (Kd.R_lt (by (with_reducible repeat (first | apply Kd.R_alloc | apply Kd.R_drewN | apply Kd.R_drew)); exact HO228.out))) (keep_size (w := w) (g := g) (row := none) (by repeat (first | (with_reducible first | exact HK.out | apply KeepBut.set_ | apply kN_ | apply kD_ | apply kA_ | refine kF_ ?_ GW216.out _ | refine kF_ ?_ GW225.out _) | exact HK.out))))
           have n3_ := Az_.mk (I81_.below (by repeat (first | (with_reducible first | exact HI0.out | apply I81_.alloc | apply I81_.drewN | apply I81_.drew | apply I81_.set_1 | refine I81_.far ?_ NB0_216.out _ | refine I81_.far ?_ NB0_225.out _) | exact HI0.out)) hb)
           have n4_ := Az_.mk (bB_ (g := gb216) (o := .cells #[.int .i64 0, .int .i64 0] 26 (0, 0)) (by (with_reducible repeat (first | refine bN_ ?_ _ | refine bD_ ?_ | refine bA_ ?_ _)); exact BK216.out) hb)
           have n5_ := Az_.mk (bB_ (g := gb225) (o := .cells #[.int .i64 (rd y219 t222), .int .i64 (wrap64 ((rd y219 t222) + (rd y226 t229)))] 26 (0, 0)) (by (with_reducible repeat (first | refine bN_ ?_ _ | refine bD_ ?_ | refine bA_ ?_ _)); exact BK225.out) hb)
           have n6_ := Az_.mk (KeepBut.trans (by repeat (first | (with_reducible first | exact HK.out | apply KeepBut.set_ | apply kN_ | apply kD_ | apply kA_ | refine kF_ ?_ GW216.out _ | refine kF_ ?_ GW225.out _) | exact HK.out)) (KeepBut.of_below hb g none) (.inl rfl))
           have n7_ := Az_.mk (below_step (by repeat (first | (with_reducible first | exact HB.out | apply eA_ | apply pN_ | apply eD_ | refine eS_ ?_ (I81_.ge HI0.out) | refine eS_ ?_ GE216.out | refine eS_ ?_ GE225.out) | exact HB.out)) hb)
           clear HO221
           clear HO228
           clear HI0
           clear BK216
           clear BK225
           clear HK
           clear HB
           have HO221 := n0_
           have HO228 := n1_
           have HO238 := n2_
           have HI0 := n3_
           have BK216 := n4_
           have BK225 := n5_
           have HK := n6_
           have HB := n7_
           clear n0_ n1_ n2_ n3_ n4_ n5_ n6_ n7_
           clear hb ho41
           obtain ⟨Ao42, co42, eo42⟩ := Kd.R_slice HO238.out
           subst eo42
           obtain ⟨ado42, fo42, _⟩ := Kd.at_int (Kd.R_reads' HO238.out).2.2 0 (by decide) (by rw [Ny236.out]; simp)
           cases fo42
           refine hK.out _ _ ⟨(bC_ BK225.out 0).trans rfl, (bC_ BK225.out 1).trans rfl⟩ (fun hHeld => ?_)
           clear hK K
           refine norm_ (a' := ?_) ?_ ?_
           rotate_left
           ·show Act.put _ (some 32) _ = _
            simp only [Act.put, List.setIfInBounds_toArray, List.set_cons_zero, List.set_cons_succ, i64_w, i32_w]
            rfl
           exact norm_ (by simp only [putAll, Act.put, List.setIfInBounds_toArray, List.set_cons_zero, List.set_cons_succ]) (hCont (.slice (some ado42) y236.length co42, ado42) _ ⟨hHeld, (by (with_reducible repeat (first | apply Kd.R_alloc | apply Kd.R_drewN | apply Kd.R_drew)); exact HO221.out), (by (with_reducible repeat (first | apply Kd.R_alloc | apply Kd.R_drewN | apply Kd.R_drew)); exact HO228.out), (by (with_reducible repeat (first | apply Kd.R_alloc | apply Kd.R_drewN | apply Kd.R_drew)); exact Kd.R_mono HO238.out (fun _ hk => ⟨hk.1.2, hk.2⟩)), ⟨_, rfl⟩, (by (with_reducible repeat (first | refine bN_ ?_ _ | refine bD_ ?_ | refine bA_ ?_ _)); exact BK216.out), (by (with_reducible repeat (first | refine bN_ ?_ _ | refine bD_ ?_ | refine bA_ ?_ _)); exact BK225.out), (by repeat (first | (with_reducible first | exact HI0.out | apply I81_.alloc | apply I81_.drewN | apply I81_.drew | apply I81_.set_1 | refine I81_.far ?_ NB0_216.out _ | refine I81_.far ?_ NB0_225.out _) | exact HI0.out)), (by repeat (first | (with_reducible first | exact HK.out | apply KeepBut.set_ | apply kN_ | apply kD_ | apply kA_ | refine kF_ ?_ GW216.out _ | refine kF_ ?_ GW225.out _) | exact HK.out)), (by repeat (first | (with_reducible first | exact HB.out | apply eA_ | apply pN_ | apply eD_ | refine eS_ ?_ (I81_.ge HI0.out) | refine eS_ ?_ GE216.out | refine eS_ ?_ GE225.out) | exact HB.out))⟩)
         rintro ⟨v237, adz_v237⟩ w43 ⟨hS_, h0_, h1_, h2_, h3_, h4_, h5_, h6_, h7_, h8_⟩
         have n0_ : Az_ (Kd.R (Kd.int .i64) 3 w43 w.heap.size (fun k_ => some k_ ≠ (.slice (some adz_v227) y226.length co34 : Value).ownBlock ∧ some k_ ≠ (v237 : Value).ownBlock) (.slice (some ad224) y219.length co22) y219) := ⟨h0_⟩
         have n1_ : Az_ (Kd.R (Kd.int .i64) 3 w43 w.heap.size (fun k_ => some k_ ≠ (.slice (some ad224) y219.length co22 : Value).ownBlock ∧ some k_ ≠ (v237 : Value).ownBlock) (.slice (some adz_v227) y226.length co34) y226) := ⟨h1_⟩
         have n2_ : Az_ (Kd.R (Kd.int .i64) 3 w43 w.heap.size (fun k_ => some k_ ≠ (.slice (some ad224) y219.length co22 : Value).ownBlock ∧ some k_ ≠ (.slice (some adz_v227) y226.length co34 : Value).ownBlock) v237 y236) := ⟨h2_⟩
         have n3_ : Az_ (∃ c_, (v237 : Value) = .slice (some adz_v237) y236.length c_) := ⟨h3_⟩
         have n4_ : Az_ (w43.heap[gb216]? = some (.cells #[.int .i64 0, .int .i64 0] 26 (0, 0))) := ⟨h4_⟩
         have n5_ : Az_ (w43.heap[gb225]? = some (.cells #[.int .i64 (rd y219 t222), .int .i64 (wrap64 ((rd y219 t222) + (rd y226 t229)))] 26 (0, 0))) := ⟨h5_⟩
         have n6_ : Az_ (I81_ w0 w43 g s0_0 t240) := ⟨h6_⟩
         have n7_ : Az_ (KeepBut w w43 g none) := ⟨h7_⟩
         have n8_ : Az_ (Below w0.heap.size w0 w43) := ⟨h8_⟩
         clear HO221
         clear HO228
         clear BK216
         clear BK225
         clear HI0
         clear HK
         clear HB
         clear h0_ h1_ h2_ h3_ h4_ h5_ h6_ h7_ h8_
         have HO221 := n0_
         have HO228 := n1_
         have HO238 := n2_
         have HA_HO238 := n3_
         have BK216 := n4_
         have BK225 := n5_
         have HI0 := n6_
         have HK := n7_
         have HB := n8_
         clear n0_ n1_ n2_ n3_ n4_ n5_ n6_ n7_ n8_
         have hHeld : w43.cell? ⟨gb225, 0, none⟩ = some (.int .i64 (rd y219 t222)) ∧ w43.cell? ⟨gb225, 1, none⟩ = some (.int .i64 (wrap64 ((rd y219 t222) + (rd y226 t229)))) := hS_
         obtain ⟨co44, eo44⟩ := HA_HO238.out
         clear HA_HO238
         subst eo44
         refine norm_ (a' := ?_) ?_ ?_
         rotate_left
         ·simp only [putAll, Act.put, List.setIfInBounds_toArray, List.set_cons_zero, List.set_cons_succ]
          rfl
         refine pure_ (i := 5) (N := some 35) (v := ?_) (a' := ?_) #[true, true, true, true, true, true, false, false, false] rfl rfl (any_of HT_.out (by kernel_rfl)) (fun _ _ _ h => h) (Or.inl ⟨by rfl, ?_⟩) ?_ ?_
         rotate_left
         ·intro w'
          go_simp
          with_reducible rfl
         rotate_left
         ·simp only [Act.put, List.setIfInBounds_toArray, List.set_cons_zero, List.set_cons_succ, i64_w, i32_w]
          rfl
         refine one_ (i := 6) (N := some 36) #[true, true, true, true, true, true, true, false, false] rfl rfl (one_of HT_.out (by kernel_rfl)) (by decide) (fun K hK => ?_)
         (have p241 : 0 ≤ (t239 : Int) := of_decide_eq_true (by first | (with_reducible assumption) | assumption); have q241 : t239 < (y236.length : Int) := of_decide_eq_true (by first | (with_reducible assumption) | assumption); obtain ⟨ad241, e241, hx241_0⟩ := Kd.at_int (Kd.R_reads' HO238.out).2.2 t239 p241 q241; obtain rfl : adz_v237 = ad241 := (by injection e241))
         refine value_ (w1 := ?_) (v := ?_) (by rfl) rfl ?_ ?_
         rotate_left 2
         ·go_simp
          constructor
          ·rfl
          ·rfl
         clear hx241_0
         refine hK.out _ _ ⟨(bC_ BK225.out 0).trans rfl, (bC_ BK225.out 1).trans rfl⟩ (fun hHeld => ?_)
         clear hK K
         refine norm_ (a' := ?_) ?_ ?_
         rotate_left
         ·show Act.put _ (some 36) _ = _
          simp only [Act.put, List.setIfInBounds_toArray, List.set_cons_zero, List.set_cons_succ, i64_w, i32_w]
          rfl
         refine pure_ (i := 7) (N := some 37) (v := ?_) (a' := ?_) #[true, true, true, true, true, true, true, true, false] rfl rfl (any_of HT_.out (by kernel_rfl)) (fun _ _ _ h => h) (Or.inl ⟨by rfl, ?_⟩) ?_ ?_
         rotate_left
         ·intro w'
          go_simp
          with_reducible rfl
         rotate_left
         ·simp only [Act.put, List.setIfInBounds_toArray, List.set_cons_zero, List.set_cons_succ, i64_w, i32_w]
          rfl
         refine last_ (i := 8) (N := none) #[true, true, true, true, true, true, true, true, true] rfl rfl (one_of HT_.out (by kernel_rfl)) (by decide) (fun K hK => ?_)
         have hs45 : w43.cell? ⟨gb225, 0, none⟩ = some (.int .i64 (rd y219 t222)) := (bC_ BK225.out 0).trans rfl
         have hfs45 := bF_ BK225.out 0
         have hns45_0 := NB216_225.out
         have hms45_0 := NB225_216.out
         refine skip_ (w1 := ?_) (by rfl) rfl ?_ ?_
         rotate_left
         ·go_simp
          rfl
         refine hK.out _ _ ?_
         clear hK K
         refine done_ (done_of HT_.out (by kernel_rfl)) ?_
         have hcz46_0 : w43.cell? ⟨gb225, 0, none⟩ = some (.int .i64 (rd y219 t222)) := (bC_ BK225.out 0).trans rfl
         have hcz46_1 : w43.cell? ⟨gb225, 1, none⟩ = some (.int .i64 (wrap64 ((rd y219 t222) + (rd y226 t229)))) := (bC_ BK225.out 1).trans rfl
         have hfz46_0 := bF_ BK225.out 0
         have hfz46_1 := bF_ BK225.out 1
         have hnb47 := NB216_0.out
         have hnc47 := NB0_216.out
         have hcz48_0 : w43.cell? ⟨gb216, 0, none⟩ = some (.int .i64 0) := (bC_ BK216.out 0).trans rfl
         have hcz48_1 : w43.cell? ⟨gb216, 1, none⟩ = some (.int .i64 0) := (bC_ BK216.out 1).trans rfl
         have hfz48_0 := bF_ BK216.out 0
         have hfz48_1 := bF_ BK216.out 1
         try go_wp2
         refine bodyPost_ret (results_cell_row rfl _ _ gb216 26 #[.int .i64 (rd y236 t239), .int .i64 (wrap64 ((rd y219 t222) + (rd y226 t229)))] (0, 0) _ rfl (by (with_reducible repeat (first | refine bN_ ?_ _ | refine bD_ ?_ | refine bA_ ?_ _)); refine bP_ (cs := #[.int .i64 (rd y236 t239), .int .i64 0]) ?_ 1 _ rfl; (with_reducible repeat (first | refine bN_ ?_ _ | refine bD_ ?_ | refine bA_ ?_ _)); refine bP_ (cs := #[.int .i64 0, .int .i64 0]) ?_ 0 _ rfl; (with_reducible repeat (first | refine bN_ ?_ _ | refine bD_ ?_ | refine bA_ ?_ _)); refine bR_ ?_ NB216_225.out _; (with_reducible repeat (first | refine bN_ ?_ _ | refine bD_ ?_ | refine bA_ ?_ _)); exact BK216.out) Try.underlying26 rfl (by kernel_rfl)) rfl ?_
         exact ⟨by first | rfl | (simp [errW_none, errW_some] <;> rfl) | (simp [*, errW_none, errW_some] <;> rfl), by repeat (first | (with_reducible first | exact HI0.out | apply I81_.alloc | apply I81_.drewN | apply I81_.drew | apply I81_.set_1 | refine I81_.far ?_ NB0_216.out _ | refine I81_.far ?_ NB0_225.out _) | exact HI0.out), by repeat (first | (with_reducible first | exact HB.out | apply eA_ | apply pN_ | apply eD_ | refine eS_ ?_ (I81_.ge HI0.out) | refine eS_ ?_ GE216.out | refine eS_ ?_ GE225.out) | exact HB.out), by repeat (first | (with_reducible first | exact HK.out | apply KeepBut.set_ | apply kN_ | apply kD_ | apply kA_ | refine kF_ ?_ GW216.out _ | refine kF_ ?_ GW225.out _) | exact HK.out)⟩
        ·rw [if_neg c16] at H
         exact absurd H (by simp)
       ·rw [if_neg c15] at H
        exact absurd H (by simp)
      ·rw [if_neg c13] at H
       have c13b0 : (t234 == 0) = false := beq_eq_false_iff_ne.mpr c13
       have c13b1 : (t234 != 0) = true := bne_iff_ne.mpr c13
       obtain ⟨y242, hy242⟩ : ∃ y_ : List Int, y_ = (([121, 120, 0, (-1)] : List Int)) := ⟨_, rfl⟩
       replace H : ((spec_l20Rd_pick.f k s0_0 t235 4).bind fun bt245 => (if 0 ≤ bt245.1 then (if bt245.1 < (y242.length : Int) then (some (rd y219 t222, rd y242 bt245.1, bt245.2)) else (none)) else (none))) = some (r1, r2, r3) := by first | (rw [hy242]; with_reducible exact H) | (have H2_ := (Option.bind_some _ _).symm.trans H; rw [hy242]; with_reducible exact H2_) | (have H2_ := (Option.bind_some _ _).symm.trans H; with_reducible exact H2_) | with_reducible exact H | (rw [hy242]; exact H) | exact H
       have Ny242 := Az_.mk hy242
       clear hy242
       replace H := Option.bind_eq_some_iff.mp H
       obtain ⟨⟨t245, t246⟩, A490, H⟩ := H
       replace H : (if 0 ≤ t245 then (if t245 < (y242.length : Int) then (some (rd y219 t222, rd y242 t245, t246)) else (none)) else (none)) = some (r1, r2, r3) := H
       have A49 := Az_.mk A490
       clear A490
       by_cases c50 : 0 ≤ t245
       ·rw [if_pos c50] at H
        have c50b0 : decide (0 ≤ t245) = true := decide_eq_true c50
        clear c50
        by_cases c51 : t245 < (y242.length : Int)
        ·rw [if_pos c51] at H
         have c51b0 : decide (t245 < (y242.length : Int)) = true := decide_eq_true c51
         clear c51
         simp only [Option.some.injEq, Prod.mk.injEq] at H
         obtain ⟨rfl, rfl, rfl⟩ := H
         go_enter Try.func67, Try.ntmps67
         try go_wp2_with (first | ((with_reducible refine gate_dst (N := 4) rfl ?_); refine box_event ?hg (N := 4) ?hd (cs := #[.int .i64 0, .int .i64 0]) (t := 26) ?hr ?_; (case hd => rfl); (case hg => rfl); (case hr => first | (go_simp; done) | (go_simp; rfl)); intro gb216 hg w52 hbox hb; have n0_ := Az_.mk (I81_.below (by repeat (first | (with_reducible first | exact HI0.out | apply I81_.alloc | apply I81_.drewN | apply I81_.drew | apply I81_.set_1) | exact HI0.out)) hb); have n1_ := Az_.mk (KeepBut.trans (by repeat (first | (with_reducible first | exact HK.out | apply KeepBut.set_ | apply kN_ | apply kD_ | apply kA_) | exact HK.out)) (KeepBut.of_below hb g none) (.inl rfl)); have n2_ := Az_.mk (below_step (by repeat (first | (with_reducible first | exact HB.out | apply eA_ | apply pN_ | apply eD_ | refine eS_ ?_ (I81_.ge HI0.out)) | exact HB.out)) hb); have n3_ := Az_.mk (hbox); have n4_ := Az_.mk ((by rw [hg]; exact (keep_size (w := w) (g := g) (row := none) (by repeat (first | (with_reducible first | exact HK.out | apply KeepBut.set_ | apply kN_ | apply kD_ | apply kA_) | exact HK.out))) : w.heap.size ≤ gb216)); have n5_ := Az_.mk ((Nat.le_trans HW0.out (by rw [hg]; exact (keep_size (w := w) (g := g) (row := none) (by repeat (first | (with_reducible first | exact HK.out | apply KeepBut.set_ | apply kN_ | apply kD_ | apply kA_) | exact HK.out))) : w.heap.size ≤ gb216) : w0.heap.size ≤ gb216)); have n6_ := Az_.mk ((by rw [hg]; exact Nat.ne_of_lt (Nat.lt_of_lt_of_le HG0.out (keep_size (w := w) (g := g) (row := none) (by repeat (first | (with_reducible first | exact HK.out | apply KeepBut.set_ | apply kN_ | apply kD_ | apply kA_) | exact HK.out)))) : g ≠ gb216)); have n7_ := Az_.mk ((by rw [hg]; exact Nat.ne_of_gt (Nat.lt_of_lt_of_le HG0.out (keep_size (w := w) (g := g) (row := none) (by repeat (first | (with_reducible first | exact HK.out | apply KeepBut.set_ | apply kN_ | apply kD_ | apply kA_) | exact HK.out)))) : gb216 ≠ g)); clear HI0; clear HK; clear HB; have HI0 := n0_; have HK := n1_; have HB := n2_; have BK216 := n3_; have GW216 := n4_; have GE216 := n5_; have NB0_216 := n6_; have NB216_0 := n7_; clear n0_ n1_ n2_ n3_ n4_ n5_ n6_ n7_; clear hb hbox hg) | ((with_reducible refine gate_callee (f := 53) rfl ?_); refine goesL_ (some 7) rfl rfl Try.func53 (by kernel_rfl) rfl #[.pointer (some ⟨g, 0, none⟩), .int .i64 40] rfl (by (try simp only [List.map_toArray, List.map_cons, List.map_nil]); first | done | rfl | (simp only [List.length_drop, List.length_take]; rfl)) ?_; (with_reducible refine (spec_l20Rd_pick.calls k g s0_0 s0_1 40 t217 t218 w0 _ ?side1 ?side2 A3.out).mono ?_); (case side1 => repeat (first | (with_reducible first | exact HI0.out | apply I81_.alloc | apply I81_.drewN | apply I81_.drew | apply I81_.set_1 | refine I81_.far ?_ NB0_216.out _) | exact HI0.out)); (case side2 => repeat (first | (with_reducible first | exact HB.out | apply eA_ | apply pN_ | apply eD_ | refine eS_ ?_ (I81_.ge HI0.out) | refine eS_ ?_ GE216.out) | exact HB.out)); rintro e w53 ⟨rfl, hi, hb, hk⟩; refine ⟨_, rfl, ?_⟩; have n0_ := Az_.mk (KeepBut.blk hk (g' := gb216) (o := .cells #[.int .i64 0, .int .i64 0] 26 (0, 0)) (by (with_reducible repeat (first | refine bN_ ?_ _ | refine bD_ ?_ | refine bA_ ?_ _)); exact BK216.out) NB216_0.out (by simp)); have n1_ := Az_.mk (KeepBut.trans (by repeat (first | (with_reducible first | exact HK.out | apply KeepBut.set_ | apply kN_ | apply kD_ | apply kA_ | refine kF_ ?_ GW216.out _) | exact HK.out)) hk (.inl rfl)); have n2_ := Az_.mk (hb); have n3_ := Az_.mk (hi); clear BK216; clear HK; clear HB; clear HI0; have BK216 := n0_; have HK := n1_; have HB := n2_; have HI0 := n3_; clear n0_ n1_ n2_ n3_; (try clear hb); (try clear hb2); (try clear hk); (try clear hi)) | ((with_reducible refine gate_dst (N := 8) rfl ?_); refine Kd.R_lit (Kd.int .i64) _ 3 ?hg (N := 8) ?hd (xs := ([0, 5, 20, 60, t217] : List Int)) (inner := [.int .i64 0, .int .i64 5, .int .i64 20, .int .i64 60, .int .i64 t217]) (ok := fun _ => True) (okp := fun _ => True) ?hr ?hp (fun _ hk => hk) trivial (Below.refl _ _) (Nat.le_refl _) (by simp) ?_; (case hd => rfl); (case hg => rfl); (case hr => first | (go_simp; done) | (go_simp; rfl)); (case hp => exact (Reps.one (show Kd.M (Kd.int .i64) _ _ _ 0 [.int .i64 0] from rfl) (Reps.one (show Kd.M (Kd.int .i64) _ _ _ 5 [.int .i64 5] from rfl) (Reps.one (show Kd.M (Kd.int .i64) _ _ _ 20 [.int .i64 20] from rfl) (Reps.one (show Kd.M (Kd.int .i64) _ _ _ 60 [.int .i64 60] from rfl) (Reps.one (show Kd.M (Kd.int .i64) _ _ _ t217 [.int .i64 t217] from rfl) (Reps.none _ _))))))); intro v220 w54 ho55 hb hg_ hnew_; clear hg_ hnew_; (first | rw [← Ny219.out] at ho55 | (simp only [Int.reduceToNat] at ho55; rw [← Ny219.out] at ho55)); have n0_ := Az_.mk (Kd.R_lower ho55 (keep_size (w := w) (g := g) (row := none) (by repeat (first | (with_reducible first | exact HK.out | apply KeepBut.set_ | apply kN_ | apply kD_ | apply kA_ | refine kF_ ?_ GW216.out _) | exact HK.out)))); have n1_ := Az_.mk (I81_.below (by repeat (first | (with_reducible first | exact HI0.out | apply I81_.alloc | apply I81_.drewN | apply I81_.drew | apply I81_.set_1 | refine I81_.far ?_ NB0_216.out _) | exact HI0.out)) hb); have n2_ := Az_.mk (bB_ (g := gb216) (o := .cells #[.int .i64 0, .int .i64 0] 26 (0, 0)) (by (with_reducible repeat (first | refine bN_ ?_ _ | refine bD_ ?_ | refine bA_ ?_ _)); exact BK216.out) hb); have n3_ := Az_.mk (KeepBut.trans (by repeat (first | (with_reducible first | exact HK.out | apply KeepBut.set_ | apply kN_ | apply kD_ | apply kA_ | refine kF_ ?_ GW216.out _) | exact HK.out)) (KeepBut.of_below hb g none) (.inl rfl)); have n4_ := Az_.mk (below_step (by repeat (first | (with_reducible first | exact HB.out | apply eA_ | apply pN_ | apply eD_ | refine eS_ ?_ (I81_.ge HI0.out) | refine eS_ ?_ GE216.out) | exact HB.out)) hb); clear HI0; clear BK216; clear HK; clear HB; have HO221 := n0_; have HI0 := n1_; have BK216 := n2_; have HK := n3_; have HB := n4_; clear n0_ n1_ n2_ n3_ n4_; clear hb ho55) | ((with_reducible refine gate_callee (f := 53) rfl ?_); refine goesL_ (some 10) rfl rfl Try.func53 (by kernel_rfl) rfl #[.pointer (some ⟨g, 0, none⟩), .int .i64 5] rfl (by (try simp only [List.map_toArray, List.map_cons, List.map_nil]); first | done | rfl | (simp only [List.length_drop, List.length_take]; rfl)) ?_; (with_reducible refine (spec_l20Rd_pick.calls k g s0_0 t218 5 t222 t223 w0 _ ?side1 ?side2 A4.out).mono ?_); (case side1 => repeat (first | (with_reducible first | exact HI0.out | apply I81_.alloc | apply I81_.drewN | apply I81_.drew | apply I81_.set_1 | refine I81_.far ?_ NB0_216.out _) | exact HI0.out)); (case side2 => repeat (first | (with_reducible first | exact HB.out | apply eA_ | apply pN_ | apply eD_ | refine eS_ ?_ (I81_.ge HI0.out) | refine eS_ ?_ GE216.out) | exact HB.out)); rintro e w56 ⟨rfl, hi, hb, hk⟩; refine ⟨_, rfl, ?_⟩; have n0_ := Az_.mk (KeepBut.blk hk (g' := gb216) (o := .cells #[.int .i64 0, .int .i64 0] 26 (0, 0)) (by (with_reducible repeat (first | refine bN_ ?_ _ | refine bD_ ?_ | refine bA_ ?_ _)); exact BK216.out) NB216_0.out (by simp)); have n1_ := Az_.mk (Kd.R_mono (Kd.R_keep (I81_.apart (show I81_ w0 _ g s0_0 t218 from by repeat (first | (with_reducible first | exact HI0.out | apply I81_.alloc | apply I81_.drewN | apply I81_.drew | apply I81_.set_1 | refine I81_.far ?_ NB0_216.out _) | exact HI0.out)) (by (with_reducible repeat (first | apply Kd.R_alloc | apply Kd.R_drewN | apply Kd.R_drew)); exact HO221.out) (by decide)) hk (fun _ h => h.2)) (fun _ h => h.1)); have n2_ := Az_.mk (KeepBut.trans (by repeat (first | (with_reducible first | exact HK.out | apply KeepBut.set_ | apply kN_ | apply kD_ | apply kA_ | refine kF_ ?_ GW216.out _) | exact HK.out)) hk (.inl rfl)); have n3_ := Az_.mk (hb); have n4_ := Az_.mk (hi); clear BK216; clear HO221; clear HK; clear HB; clear HI0; have BK216 := n0_; have HO221 := n1_; have HK := n2_; have HB := n3_; have HI0 := n4_; clear n0_ n1_ n2_ n3_ n4_; (try clear hb); (try clear hb2); (try clear hk); (try clear hi); obtain ⟨Ao57, co57, eo57⟩ := Kd.R_slice HO221.out; subst eo57; have p224 : 0 ≤ (t222 : Int) := of_decide_eq_true (by first | (with_reducible assumption) | assumption); have q224 : t222 < (y219.length : Int) := of_decide_eq_true (by first | (with_reducible assumption) | assumption); obtain ⟨ad224, e224, hx224_0⟩ := Kd.at_int (Kd.R_reads' HO221.out).2.2 t222 p224 q224; cases e224; replace p224 := eq_true p224; replace q224 := eq_true q224) | ((with_reducible refine gate_dst (N := 5) rfl ?_); refine box_event ?hg (N := 5) ?hd (cs := #[.int .i64 0, .int .i64 0]) (t := 26) ?hr ?_; (case hd => rfl); (case hg => rfl); (case hr => first | (go_simp; done) | (go_simp; rfl)); intro gb225 hg w58 hbox hb; have n0_ := Az_.mk (Kd.R_below (by (with_reducible repeat (first | apply Kd.R_alloc | apply Kd.R_drewN | apply Kd.R_drew)); exact HO221.out) hb); have n1_ := Az_.mk (I81_.below (by repeat (first | (with_reducible first | exact HI0.out | apply I81_.alloc | apply I81_.drewN | apply I81_.drew | apply I81_.set_1 | refine I81_.far ?_ NB0_216.out _) | exact HI0.out)) hb); have n2_ := Az_.mk (bB_ (g := gb216) (o := .cells #[.int .i64 0, .int .i64 0] 26 (0, 0)) (by (with_reducible repeat (first | refine bN_ ?_ _ | refine bD_ ?_ | refine bA_ ?_ _)); exact BK216.out) hb); have n3_ := Az_.mk (KeepBut.trans (by repeat (first | (with_reducible first | exact HK.out | apply KeepBut.set_ | apply kN_ | apply kD_ | apply kA_ | refine kF_ ?_ GW216.out _) | exact HK.out)) (KeepBut.of_below hb g none) (.inl rfl)); have n4_ := Az_.mk (below_step (by repeat (first | (with_reducible first | exact HB.out | apply eA_ | apply pN_ | apply eD_ | refine eS_ ?_ (I81_.ge HI0.out) | refine eS_ ?_ GE216.out) | exact HB.out)) hb); have n5_ := Az_.mk (hbox); have n6_ := Az_.mk ((by rw [hg]; exact (keep_size (w := w) (g := g) (row := none) (by repeat (first | (with_reducible first | exact HK.out | apply KeepBut.set_ | apply kN_ | apply kD_ | apply kA_ | refine kF_ ?_ GW216.out _) | exact HK.out))) : w.heap.size ≤ gb225)); have n7_ := Az_.mk ((Nat.le_trans HW0.out (by rw [hg]; exact (keep_size (w := w) (g := g) (row := none) (by repeat (first | (with_reducible first | exact HK.out | apply KeepBut.set_ | apply kN_ | apply kD_ | apply kA_ | refine kF_ ?_ GW216.out _) | exact HK.out))) : w.heap.size ≤ gb225) : w0.heap.size ≤ gb225)); have n8_ := Az_.mk ((by rw [hg]; exact Nat.ne_of_lt (blk_lt (g := gb216) (o := .cells #[.int .i64 0, .int .i64 0] 26 (0, 0)) (by (with_reducible repeat (first | refine bN_ ?_ _ | refine bD_ ?_ | refine bA_ ?_ _)); exact BK216.out)) : gb216 ≠ gb225)); have n9_ := Az_.mk ((by rw [hg]; exact Nat.ne_of_gt (blk_lt (g := gb216) (o := .cells #[.int .i64 0, .int .i64 0] 26 (0, 0)) (by (with_reducible repeat (first | refine bN_ ?_ _ | refine bD_ ?_ | refine bA_ ?_ _)); exact BK216.out)) : gb225 ≠ gb216)); have n10_ := Az_.mk ((by rw [hg]; exact Nat.ne_of_lt (Nat.lt_of_lt_of_le HG0.out (keep_size (w := w) (g := g) (row := none) (by repeat (first | (with_reducible first | exact HK.out | apply KeepBut.set_ | apply kN_ | apply kD_ | apply kA_ | refine kF_ ?_ GW216.out _) | exact HK.out)))) : g ≠ gb225)); have n11_ := Az_.mk ((by rw [hg]; exact Nat.ne_of_gt (Nat.lt_of_lt_of_le HG0.out (keep_size (w := w) (g := g) (row := none) (by repeat (first | (with_reducible first | exact HK.out | apply KeepBut.set_ | apply kN_ | apply kD_ | apply kA_ | refine kF_ ?_ GW216.out _) | exact HK.out)))) : gb225 ≠ g)); clear HO221; clear HI0; clear BK216; clear HK; clear HB; have HO221 := n0_; have HI0 := n1_; have BK216 := n2_; have HK := n3_; have HB := n4_; have BK225 := n5_; have GW225 := n6_; have GE225 := n7_; have NB216_225 := n8_; have NB225_216 := n9_; have NB0_225 := n10_; have NB225_0 := n11_; clear n0_ n1_ n2_ n3_ n4_ n5_ n6_ n7_ n8_ n9_ n10_ n11_; clear hb hbox hg; have hnb59 := NB225_216.out; have hnc59 := NB216_225.out; have hnb60 := NB225_0.out; have hnc60 := NB0_225.out; have hcz61_0 : w58.cell? ⟨gb225, 0, none⟩ = some (.int .i64 0) := (bC_ BK225.out 0).trans rfl; have hcz61_1 : w58.cell? ⟨gb225, 1, none⟩ = some (.int .i64 0) := (bC_ BK225.out 1).trans rfl; have hfz61_0 := bF_ BK225.out 0; have hfz61_1 := bF_ BK225.out 1))
         have pi231 : (0 ≤ (t229 : Int)) = True := eq_true (of_decide_eq_true (by first | (with_reducible assumption) | assumption))
         have qi231 : (t229 < (y226.length : Int)) = True := eq_true (of_decide_eq_true (by first | (with_reducible assumption) | assumption))
         have n0_ : Az_ (Kd.R (Kd.int .i64) 3 ((w58.setCell ⟨gb225, 0, none⟩ (.int .i64 (rd y219 t222))).setCell ⟨gb225, 1, none⟩ (.int .i64 0)) w.heap.size (fun _ => True) (.slice (some ad224) y219.length co57) y219) := ⟨by (with_reducible repeat (first | apply Kd.R_alloc | apply Kd.R_drewN | apply Kd.R_drew)); exact Kd.R_mono (Kd.R_far (p := ⟨gb225, 1, none⟩) (Kd.R_far (p := ⟨gb225, 0, none⟩) (Kd.R_types HO221.out BK225.out (by decide)) (fun _ hk => hk.2) (.int .i64 (rd y219 t222))) (fun _ hk => hk.2) (.int .i64 0)) (fun _ hk => trivial)⟩
         have n1_ : Az_ (((w58.setCell ⟨gb225, 0, none⟩ (.int .i64 (rd y219 t222))).setCell ⟨gb225, 1, none⟩ (.int .i64 0)).heap[gb216]? = some (.cells #[.int .i64 0, .int .i64 0] 26 (0, 0))) := ⟨by (with_reducible repeat (first | refine bN_ ?_ _ | refine bD_ ?_ | refine bA_ ?_ _)); refine bR_ ?_ NB216_225.out _; (with_reducible repeat (first | refine bN_ ?_ _ | refine bD_ ?_ | refine bA_ ?_ _)); refine bR_ ?_ NB216_225.out _; (with_reducible repeat (first | refine bN_ ?_ _ | refine bD_ ?_ | refine bA_ ?_ _)); exact BK216.out⟩
         have n2_ : Az_ (((w58.setCell ⟨gb225, 0, none⟩ (.int .i64 (rd y219 t222))).setCell ⟨gb225, 1, none⟩ (.int .i64 0)).heap[gb225]? = some (.cells #[.int .i64 (rd y219 t222), .int .i64 0] 26 (0, 0))) := ⟨by (with_reducible repeat (first | refine bN_ ?_ _ | refine bD_ ?_ | refine bA_ ?_ _)); refine bP_ (cs := #[.int .i64 (rd y219 t222), .int .i64 0]) ?_ 1 _ rfl; (with_reducible repeat (first | refine bN_ ?_ _ | refine bD_ ?_ | refine bA_ ?_ _)); refine bP_ (cs := #[.int .i64 0, .int .i64 0]) ?_ 0 _ rfl; (with_reducible repeat (first | refine bN_ ?_ _ | refine bD_ ?_ | refine bA_ ?_ _)); exact BK225.out⟩
         have n3_ : Az_ (I81_ w0 ((w58.setCell ⟨gb225, 0, none⟩ (.int .i64 (rd y219 t222))).setCell ⟨gb225, 1, none⟩ (.int .i64 0)) g s0_0 t223) := ⟨by repeat (first | (with_reducible first | exact HI0.out | apply I81_.alloc | apply I81_.drewN | apply I81_.drew | apply I81_.set_1 | refine I81_.far ?_ NB0_216.out _ | refine I81_.far ?_ NB0_225.out _) | exact HI0.out)⟩
         have n4_ : Az_ (KeepBut w ((w58.setCell ⟨gb225, 0, none⟩ (.int .i64 (rd y219 t222))).setCell ⟨gb225, 1, none⟩ (.int .i64 0)) g none) := ⟨by repeat (first | (with_reducible first | exact HK.out | apply KeepBut.set_ | apply kN_ | apply kD_ | apply kA_ | refine kF_ ?_ GW216.out _ | refine kF_ ?_ GW225.out _) | exact HK.out)⟩
         have n5_ : Az_ (Below w0.heap.size w0 ((w58.setCell ⟨gb225, 0, none⟩ (.int .i64 (rd y219 t222))).setCell ⟨gb225, 1, none⟩ (.int .i64 0))) := ⟨by repeat (first | (with_reducible first | exact HB.out | apply eA_ | apply pN_ | apply eD_ | refine eS_ ?_ (I81_.ge HI0.out) | refine eS_ ?_ GE216.out | refine eS_ ?_ GE225.out) | exact HB.out)⟩
         (try clear HO221)
         (try clear BK216)
         (try clear BK225)
         (try clear HI0)
         (try clear HK)
         (try clear HB)
         generalize ((w58.setCell ⟨gb225, 0, none⟩ (.int .i64 (rd y219 t222))).setCell ⟨gb225, 1, none⟩ (.int .i64 0)) = w62 at n0_ n1_ n2_ n3_ n4_ n5_ ⊢
         have HO221 := n0_
         have BK216 := n1_
         have BK225 := n2_
         have HI0 := n3_
         have HK := n4_
         have HB := n5_
         clear n0_ n1_ n2_ n3_ n4_ n5_
         have n0_ := Az_.mk (Kd.R_drew HO221.out)
         have n1_ := Az_.mk (bD_ BK216.out)
         have n2_ := Az_.mk (bD_ BK225.out)
         have n3_ := Az_.mk (I81_.drew HI0.out)
         have n4_ := Az_.mk (kD_ HK.out)
         have n5_ := Az_.mk (eD_ HB.out)
         clear HO221
         clear BK216
         clear BK225
         clear HI0
         clear HK
         clear HB
         have HO221 := n0_
         have BK216 := n1_
         have BK225 := n2_
         have HI0 := n3_
         have HK := n4_
         have HB := n5_
         clear n0_ n1_ n2_ n3_ n4_ n5_
         refine start_ (n := 10) (S := fun w' => w'.cell? ⟨gb225, 0, none⟩ = some (.int .i64 (rd y219 t222)) ∧ w'.cell? ⟨gb225, 1, none⟩ = some (.int .i64 0)) (ds := [9]) #[false, false, false, false, false, false, false, false, false, false] (by kernel_rfl) rfl rfl ⟨(bC_ BK225.out 0).trans rfl, (bC_ BK225.out 1).trans rfl⟩ (fun hHeld => ?_); refine with_tabW spec_l20Win.tab2 spec_l20Win.bits2 (fun HT_ HW_ => ?_)
         generalize w62.drew = w63 at HO221 BK216 BK225 HI0 HK HB hHeld ⊢
         refine pure_ (i := 0) (N := some 14) (v := ?_) (a' := ?_) #[true, false, false, false, false, false, false, false, false, false] rfl rfl (any_of HT_.out (by kernel_rfl)) (fun _ _ _ h => h) (Or.inl ⟨by rfl, ?_⟩) ?_ ?_
         rotate_left
         ·intro w'
          go_simp
          with_reducible rfl
         rotate_left
         ·simp only [Act.put, List.setIfInBounds_toArray, List.set_cons_zero, List.set_cons_succ, i64_w, i32_w]
          rfl
         refine pure_ (i := 3) (N := some 17) (v := ?_) (a' := ?_) #[true, false, false, true, false, false, false, false, false, false] rfl rfl (any_of HT_.out (by kernel_rfl)) (fun _ _ _ h => h) (Or.inl ⟨by rfl, ?_⟩) ?_ ?_
         rotate_left
         ·intro w'
          go_simp
          with_reducible rfl
         rotate_left
         ·simp only [Act.put, List.setIfInBounds_toArray, List.set_cons_zero, List.set_cons_succ, i64_w, i32_w]
          rfl
         refine take_ (i := 1) (N := some 15) (v := ?_) (a' := ?_) #[true, true, false, true, false, false, false, false, false, false] rfl rfl (take_ofW HT_.out HW_.out (by kernel_rfl)) (fun _ _ _ h => h) (Or.inl ⟨by rfl, ?_⟩) hHeld ?_ ?_
         rotate_left
         ·rintro w' ⟨s0, s1⟩
          go_simp
          with_reducible rfl
         rotate_left
         ·simp only [Act.put, List.setIfInBounds_toArray, List.set_cons_zero, List.set_cons_succ, i64_w, i32_w]
          rfl
         refine join_ (σ := Value × Addr) 5 #[true, true, true, true, true, false, false, false, false, false] (fun s_ => [(16, s_.1), (18, .int .i64 t229)]) (fun s_ w' => (w'.cell? ⟨gb225, 0, none⟩ = some (.int .i64 (rd y219 t222)) ∧ w'.cell? ⟨gb225, 1, none⟩ = some (.int .i64 0)) ∧ (Kd.R (Kd.int .i64) 3 w' w.heap.size (fun k_ => some k_ ≠ (s_.1 : Value).ownBlock) (.slice (some ad224) y219.length co57) y219) ∧ (Kd.R (Kd.int .i64) 3 w' w.heap.size (fun k_ => some k_ ≠ (.slice (some ad224) y219.length co57 : Value).ownBlock) s_.1 y226) ∧ (∃ c_, (s_.1 : Value) = .slice (some s_.2) y226.length c_) ∧ (w'.heap[gb216]? = some (.cells #[.int .i64 0, .int .i64 0] 26 (0, 0))) ∧ (w'.heap[gb225]? = some (.cells #[.int .i64 (rd y219 t222), .int .i64 0] 26 (0, 0))) ∧ (I81_ w0 w' g s0_0 t230) ∧ (KeepBut w w' g none) ∧ (Below w0.heap.size w0 w')) ?_ ?_
         rotate_left
         ·intro hCont
          refine two_ (i := 2) (j := 4) (Ni := some 16) (Nj := some 18) #[true, true, true, true, false, false, false, false, false, false] #[true, true, false, true, true, false, false, false, false, false] rfl rfl rfl rfl (two_of HT_.out (by kernel_rfl)) (by decide) (by decide) (fun K hK => ?_) (fun K hK => ?_)
          ·skip
           refine Kd.R_lit_step (Kd.int .i64) _ 3 ?hg (N := 16) ?hd (xs := ([1, 5, 10, 20] : List Int)) (inner := [.int .i64 1, .int .i64 5, .int .i64 10, .int .i64 20]) (ok := fun _ => True) (okp := fun _ => True) ?hr ?hp (fun _ hk => hk) trivial (Below.refl _ _) (Nat.le_refl _) (by simp) ?_; (case hd => rfl); (case hg => rfl); (case hr => first | (go_simp; done) | (go_simp; rfl)); (case hp => exact (Reps.one (show Kd.M (Kd.int .i64) _ _ _ 1 [.int .i64 1] from rfl) (Reps.one (show Kd.M (Kd.int .i64) _ _ _ 5 [.int .i64 5] from rfl) (Reps.one (show Kd.M (Kd.int .i64) _ _ _ 10 [.int .i64 10] from rfl) (Reps.one (show Kd.M (Kd.int .i64) _ _ _ 20 [.int .i64 20] from rfl) (Reps.none _ _))))))
           intro v227 w64 ho65 hb hg_ hnew_
           clear hg_ hnew_
           (first | rw [← Ny226.out] at ho65 | (simp only [Int.reduceToNat] at ho65; rw [← Ny226.out] at ho65))
           have n0_ := Az_.mk (Kd.R_elder' (by (with_reducible repeat (first | apply Kd.R_alloc | apply Kd.R_drewN | apply Kd.R_drew)); exact HO221.out) (Kd.R_base ho65) hb)
           have n1_ := Az_.mk (Kd.R_lower (Kd.R_new' ho65 (Kd.R_lt (by (with_reducible repeat (first | apply Kd.R_alloc | apply Kd.R_drewN | apply Kd.R_drew)); exact HO221.out))) (keep_size (w := w) (g := g) (row := none) (by repeat (first | (with_reducible first | exact HK.out | apply KeepBut.set_ | apply kN_ | apply kD_ | apply kA_ | refine kF_ ?_ GW216.out _ | refine kF_ ?_ GW225.out _) | exact HK.out))))
           have n2_ := Az_.mk (I81_.below (by repeat (first | (with_reducible first | exact HI0.out | apply I81_.alloc | apply I81_.drewN | apply I81_.drew | apply I81_.set_1 | refine I81_.far ?_ NB0_216.out _ | refine I81_.far ?_ NB0_225.out _) | exact HI0.out)) hb)
           have n3_ := Az_.mk (bB_ (g := gb216) (o := .cells #[.int .i64 0, .int .i64 0] 26 (0, 0)) (by (with_reducible repeat (first | refine bN_ ?_ _ | refine bD_ ?_ | refine bA_ ?_ _)); exact BK216.out) hb)
           have n4_ := Az_.mk (bB_ (g := gb225) (o := .cells #[.int .i64 (rd y219 t222), .int .i64 0] 26 (0, 0)) (by (with_reducible repeat (first | refine bN_ ?_ _ | refine bD_ ?_ | refine bA_ ?_ _)); exact BK225.out) hb)
           have n5_ := Az_.mk (KeepBut.trans (by repeat (first | (with_reducible first | exact HK.out | apply KeepBut.set_ | apply kN_ | apply kD_ | apply kA_ | refine kF_ ?_ GW216.out _ | refine kF_ ?_ GW225.out _) | exact HK.out)) (KeepBut.of_below hb g none) (.inl rfl))
           have n6_ := Az_.mk (below_step (by repeat (first | (with_reducible first | exact HB.out | apply eA_ | apply pN_ | apply eD_ | refine eS_ ?_ (I81_.ge HI0.out) | refine eS_ ?_ GE216.out | refine eS_ ?_ GE225.out) | exact HB.out)) hb)
           clear HO221
           clear HI0
           clear BK216
           clear BK225
           clear HK
           clear HB
           have HO221 := n0_
           have HO228 := n1_
           have HI0 := n2_
           have BK216 := n3_
           have BK225 := n4_
           have HK := n5_
           have HB := n6_
           clear n0_ n1_ n2_ n3_ n4_ n5_ n6_
           clear hb ho65
           obtain ⟨Ao66, co66, eo66⟩ := Kd.R_slice HO228.out
           subst eo66
           obtain ⟨ado66, fo66, _⟩ := Kd.at_int (Kd.R_reads' HO228.out).2.2 0 (by decide) (by rw [Ny226.out]; simp)
           cases fo66
           refine hK.out _ _ ⟨(bC_ BK225.out 0).trans rfl, (bC_ BK225.out 1).trans rfl⟩ (fun hHeld => ?_)
           clear hK K
           refine norm_ (a' := ?_) ?_ ?_
           rotate_left
           ·show Act.put _ (some 16) _ = _
            simp only [Act.put, List.setIfInBounds_toArray, List.set_cons_zero, List.set_cons_succ, i64_w, i32_w]
            rfl
           refine one_ (i := 4) (N := some 18) #[true, true, true, true, true, false, false, false, false, false] rfl rfl (one_of HT_.out (by kernel_rfl)) (by decide) (fun K hK => ?_)
           refine goes_ Try.func53 (by kernel_rfl) rfl #[.pointer (some ⟨g, 0, none⟩), .int .i64 4] (by rfl) rfl rfl (by (try simp only [List.map_toArray, List.map_cons, List.map_nil]); first | done | rfl | (simp only [List.length_drop, List.length_take]; rfl)) ?_
           with_reducible refine (spec_l20Rd_pick.calls k g s0_0 t223 4 t229 t230 w0 _ ?side1 ?side2 A7.out).mono ?_
           (case side1 => repeat (first | (with_reducible first | exact HI0.out | apply I81_.alloc | apply I81_.drewN | apply I81_.drew | apply I81_.set_1 | refine I81_.far ?_ NB0_216.out _ | refine I81_.far ?_ NB0_225.out _) | exact HI0.out))
           (case side2 => repeat (first | (with_reducible first | exact HB.out | apply eA_ | apply pN_ | apply eD_ | refine eS_ ?_ (I81_.ge HI0.out) | refine eS_ ?_ GE216.out | refine eS_ ?_ GE225.out) | exact HB.out))
           rintro e w67 ⟨rfl, hi, hb, hk⟩
           refine ⟨_, rfl, ?_⟩
           have n0_ := Az_.mk (KeepBut.blk hk (g' := gb216) (o := .cells #[.int .i64 0, .int .i64 0] 26 (0, 0)) (by (with_reducible repeat (first | refine bN_ ?_ _ | refine bD_ ?_ | refine bA_ ?_ _)); exact BK216.out) NB216_0.out (by simp))
           have n1_ := Az_.mk (Kd.R_mono (Kd.R_keep (I81_.apart (show I81_ w0 _ g s0_0 t223 from by repeat (first | (with_reducible first | exact HI0.out | apply I81_.alloc | apply I81_.drewN | apply I81_.drew | apply I81_.set_1 | refine I81_.far ?_ NB0_216.out _ | refine I81_.far ?_ NB0_225.out _) | exact HI0.out)) (by (with_reducible repeat (first | apply Kd.R_alloc | apply Kd.R_drewN | apply Kd.R_drew)); exact HO221.out) (by decide)) hk (fun _ h => h.2)) (fun _ h => h.1))
           have n2_ := Az_.mk (KeepBut.blk hk (g' := gb225) (o := .cells #[.int .i64 (rd y219 t222), .int .i64 0] 26 (0, 0)) (by (with_reducible repeat (first | refine bN_ ?_ _ | refine bD_ ?_ | refine bA_ ?_ _)); exact BK225.out) NB225_0.out (by simp))
           have n3_ := Az_.mk (Kd.R_mono (Kd.R_keep (I81_.apart (show I81_ w0 _ g s0_0 t223 from by repeat (first | (with_reducible first | exact HI0.out | apply I81_.alloc | apply I81_.drewN | apply I81_.drew | apply I81_.set_1 | refine I81_.far ?_ NB0_216.out _ | refine I81_.far ?_ NB0_225.out _) | exact HI0.out)) (by (with_reducible repeat (first | apply Kd.R_alloc | apply Kd.R_drewN | apply Kd.R_drew)); exact HO228.out) (by decide)) hk (fun _ h => h.2)) (fun _ h => h.1))
           have n4_ := Az_.mk (KeepBut.trans (by repeat (first | (with_reducible first | exact HK.out | apply KeepBut.set_ | apply kN_ | apply kD_ | apply kA_ | refine kF_ ?_ GW216.out _ | refine kF_ ?_ GW225.out _) | exact HK.out)) hk (.inl rfl))
           have n5_ := Az_.mk (hb)
           have n6_ := Az_.mk (hi)
           clear BK216
           clear HO221
           clear BK225
           clear HO228
           clear HK
           clear HB
           clear HI0
           have BK216 := n0_
           have HO221 := n1_
           have BK225 := n2_
           have HO228 := n3_
           have HK := n4_
           have HB := n5_
           have HI0 := n6_
           clear n0_ n1_ n2_ n3_ n4_ n5_ n6_
           (try clear hb)
           (try clear hb2)
           (try clear hk)
           (try clear hi)
           refine hK.out _ _ ⟨(bC_ BK225.out 0).trans rfl, (bC_ BK225.out 1).trans rfl⟩ (fun hHeld => ?_)
           clear hK K
           refine norm_ (a' := ?_) ?_ ?_
           rotate_left
           ·show Act.put _ (some 18) _ = _
            simp only [Act.put, List.setIfInBounds_toArray, List.set_cons_zero, List.set_cons_succ, i64_w, i32_w]
            rfl
           exact norm_ (by simp only [putAll, Act.put, List.setIfInBounds_toArray, List.set_cons_zero, List.set_cons_succ]) (hCont (.slice (some ado66) y226.length co66, ado66) _ ⟨hHeld, (by (with_reducible repeat (first | apply Kd.R_alloc | apply Kd.R_drewN | apply Kd.R_drew)); exact Kd.R_mono HO221.out (fun _ hk => hk.2)), (by (with_reducible repeat (first | apply Kd.R_alloc | apply Kd.R_drewN | apply Kd.R_drew)); exact Kd.R_mono HO228.out (fun _ hk => hk.2)), ⟨_, rfl⟩, (by (with_reducible repeat (first | refine bN_ ?_ _ | refine bD_ ?_ | refine bA_ ?_ _)); exact BK216.out), (by (with_reducible repeat (first | refine bN_ ?_ _ | refine bD_ ?_ | refine bA_ ?_ _)); exact BK225.out), (by repeat (first | (with_reducible first | exact HI0.out | apply I81_.alloc | apply I81_.drewN | apply I81_.drew | apply I81_.set_1 | refine I81_.far ?_ NB0_216.out _ | refine I81_.far ?_ NB0_225.out _) | exact HI0.out)), (by repeat (first | (with_reducible first | exact HK.out | apply KeepBut.set_ | apply kN_ | apply kD_ | apply kA_ | refine kF_ ?_ GW216.out _ | refine kF_ ?_ GW225.out _) | exact HK.out)), (by repeat (first | (with_reducible first | exact HB.out | apply eA_ | apply pN_ | apply eD_ | refine eS_ ?_ (I81_.ge HI0.out) | refine eS_ ?_ GE216.out | refine eS_ ?_ GE225.out) | exact HB.out))⟩)
          ·skip
           refine goes_ Try.func53 (by kernel_rfl) rfl #[.pointer (some ⟨g, 0, none⟩), .int .i64 4] (by rfl) rfl rfl (by (try simp only [List.map_toArray, List.map_cons, List.map_nil]); first | done | rfl | (simp only [List.length_drop, List.length_take]; rfl)) ?_
           with_reducible refine (spec_l20Rd_pick.calls k g s0_0 t223 4 t229 t230 w0 _ ?side1 ?side2 A7.out).mono ?_
           (case side1 => repeat (first | (with_reducible first | exact HI0.out | apply I81_.alloc | apply I81_.drewN | apply I81_.drew | apply I81_.set_1 | refine I81_.far ?_ NB0_216.out _ | refine I81_.far ?_ NB0_225.out _) | exact HI0.out))
           (case side2 => repeat (first | (with_reducible first | exact HB.out | apply eA_ | apply pN_ | apply eD_ | refine eS_ ?_ (I81_.ge HI0.out) | refine eS_ ?_ GE216.out | refine eS_ ?_ GE225.out) | exact HB.out))
           rintro e w64 ⟨rfl, hi, hb, hk⟩
           refine ⟨_, rfl, ?_⟩
           have n0_ := Az_.mk (KeepBut.blk hk (g' := gb216) (o := .cells #[.int .i64 0, .int .i64 0] 26 (0, 0)) (by (with_reducible repeat (first | refine bN_ ?_ _ | refine bD_ ?_ | refine bA_ ?_ _)); exact BK216.out) NB216_0.out (by simp))
           have n1_ := Az_.mk (Kd.R_mono (Kd.R_keep (I81_.apart (show I81_ w0 _ g s0_0 t223 from by repeat (first | (with_reducible first | exact HI0.out | apply I81_.alloc | apply I81_.drewN | apply I81_.drew | apply I81_.set_1 | refine I81_.far ?_ NB0_216.out _ | refine I81_.far ?_ NB0_225.out _) | exact HI0.out)) (by (with_reducible repeat (first | apply Kd.R_alloc | apply Kd.R_drewN | apply Kd.R_drew)); exact HO221.out) (by decide)) hk (fun _ h => h.2)) (fun _ h => h.1))
           have n2_ := Az_.mk (KeepBut.blk hk (g' := gb225) (o := .cells #[.int .i64 (rd y219 t222), .int .i64 0] 26 (0, 0)) (by (with_reducible repeat (first | refine bN_ ?_ _ | refine bD_ ?_ | refine bA_ ?_ _)); exact BK225.out) NB225_0.out (by simp))
           have n3_ := Az_.mk (KeepBut.trans (by repeat (first | (with_reducible first | exact HK.out | apply KeepBut.set_ | apply kN_ | apply kD_ | apply kA_ | refine kF_ ?_ GW216.out _ | refine kF_ ?_ GW225.out _) | exact HK.out)) hk (.inl rfl))
           have n4_ := Az_.mk (hb)
           have n5_ := Az_.mk (hi)
           clear BK216
           clear HO221
           clear BK225
           clear HK
           clear HB
           clear HI0
           have BK216 := n0_
           have HO221 := n1_
           have BK225 := n2_
           have HK := n3_
           have HB := n4_
           have HI0 := n5_
           clear n0_ n1_ n2_ n3_ n4_ n5_
           (try clear hb)
           (try clear hb2)
           (try clear hk)
           (try clear hi)
           refine hK.out _ _ ⟨(bC_ BK225.out 0).trans rfl, (bC_ BK225.out 1).trans rfl⟩ (fun hHeld => ?_)
           clear hK K
           refine norm_ (a' := ?_) ?_ ?_
           rotate_left
           ·show Act.put _ (some 18) _ = _
            simp only [Act.put, List.setIfInBounds_toArray, List.set_cons_zero, List.set_cons_succ, i64_w, i32_w]
            rfl
           refine one_ (i := 2) (N := some 16) #[true, true, true, true, true, false, false, false, false, false] rfl rfl (one_of HT_.out (by kernel_rfl)) (by decide) (fun K hK => ?_)
           refine Kd.R_lit_step (Kd.int .i64) _ 3 ?hg (N := 16) ?hd (xs := ([1, 5, 10, 20] : List Int)) (inner := [.int .i64 1, .int .i64 5, .int .i64 10, .int .i64 20]) (ok := fun _ => True) (okp := fun _ => True) ?hr ?hp (fun _ hk => hk) trivial (Below.refl _ _) (Nat.le_refl _) (by simp) ?_; (case hd => rfl); (case hg => rfl); (case hr => first | (go_simp; done) | (go_simp; rfl)); (case hp => exact (Reps.one (show Kd.M (Kd.int .i64) _ _ _ 1 [.int .i64 1] from rfl) (Reps.one (show Kd.M (Kd.int .i64) _ _ _ 5 [.int .i64 5] from rfl) (Reps.one (show Kd.M (Kd.int .i64) _ _ _ 10 [.int .i64 10] from rfl) (Reps.one (show Kd.M (Kd.int .i64) _ _ _ 20 [.int .i64 20] from rfl) (Reps.none _ _))))))
           intro v227 w65 ho66 hb hg_ hnew_
           clear hg_ hnew_
           (first | rw [← Ny226.out] at ho66 | (simp only [Int.reduceToNat] at ho66; rw [← Ny226.out] at ho66))
           have n0_ := Az_.mk (Kd.R_elder' (by (with_reducible repeat (first | apply Kd.R_alloc | apply Kd.R_drewN | apply Kd.R_drew)); exact HO221.out) (Kd.R_base ho66) hb)
           have n1_ := Az_.mk (Kd.R_lower (Kd.R_new' ho66 (Kd.R_lt (by (with_reducible repeat (first | apply Kd.R_alloc | apply Kd.R_drewN | apply Kd.R_drew)); exact HO221.out))) (keep_size (w := w) (g := g) (row := none) (by repeat (first | (with_reducible first | exact HK.out | apply KeepBut.set_ | apply kN_ | apply kD_ | apply kA_ | refine kF_ ?_ GW216.out _ | refine kF_ ?_ GW225.out _) | exact HK.out))))
           have n2_ := Az_.mk (I81_.below (by repeat (first | (with_reducible first | exact HI0.out | apply I81_.alloc | apply I81_.drewN | apply I81_.drew | apply I81_.set_1 | refine I81_.far ?_ NB0_216.out _ | refine I81_.far ?_ NB0_225.out _) | exact HI0.out)) hb)
           have n3_ := Az_.mk (bB_ (g := gb216) (o := .cells #[.int .i64 0, .int .i64 0] 26 (0, 0)) (by (with_reducible repeat (first | refine bN_ ?_ _ | refine bD_ ?_ | refine bA_ ?_ _)); exact BK216.out) hb)
           have n4_ := Az_.mk (bB_ (g := gb225) (o := .cells #[.int .i64 (rd y219 t222), .int .i64 0] 26 (0, 0)) (by (with_reducible repeat (first | refine bN_ ?_ _ | refine bD_ ?_ | refine bA_ ?_ _)); exact BK225.out) hb)
           have n5_ := Az_.mk (KeepBut.trans (by repeat (first | (with_reducible first | exact HK.out | apply KeepBut.set_ | apply kN_ | apply kD_ | apply kA_ | refine kF_ ?_ GW216.out _ | refine kF_ ?_ GW225.out _) | exact HK.out)) (KeepBut.of_below hb g none) (.inl rfl))
           have n6_ := Az_.mk (below_step (by repeat (first | (with_reducible first | exact HB.out | apply eA_ | apply pN_ | apply eD_ | refine eS_ ?_ (I81_.ge HI0.out) | refine eS_ ?_ GE216.out | refine eS_ ?_ GE225.out) | exact HB.out)) hb)
           clear HO221
           clear HI0
           clear BK216
           clear BK225
           clear HK
           clear HB
           have HO221 := n0_
           have HO228 := n1_
           have HI0 := n2_
           have BK216 := n3_
           have BK225 := n4_
           have HK := n5_
           have HB := n6_
           clear n0_ n1_ n2_ n3_ n4_ n5_ n6_
           clear hb ho66
           obtain ⟨Ao67, co67, eo67⟩ := Kd.R_slice HO228.out
           subst eo67
           obtain ⟨ado67, fo67, _⟩ := Kd.at_int (Kd.R_reads' HO228.out).2.2 0 (by decide) (by rw [Ny226.out]; simp)
           cases fo67
           refine hK.out _ _ ⟨(bC_ BK225.out 0).trans rfl, (bC_ BK225.out 1).trans rfl⟩ (fun hHeld => ?_)
           clear hK K
           refine norm_ (a' := ?_) ?_ ?_
           rotate_left
           ·show Act.put _ (some 16) _ = _
            simp only [Act.put, List.setIfInBounds_toArray, List.set_cons_zero, List.set_cons_succ, i64_w, i32_w]
            rfl
           exact norm_ (by simp only [putAll, Act.put, List.setIfInBounds_toArray, List.set_cons_zero, List.set_cons_succ]) (hCont (.slice (some ado67) y226.length co67, ado67) _ ⟨hHeld, (by (with_reducible repeat (first | apply Kd.R_alloc | apply Kd.R_drewN | apply Kd.R_drew)); exact Kd.R_mono HO221.out (fun _ hk => hk.2)), (by (with_reducible repeat (first | apply Kd.R_alloc | apply Kd.R_drewN | apply Kd.R_drew)); exact Kd.R_mono HO228.out (fun _ hk => hk.2)), ⟨_, rfl⟩, (by (with_reducible repeat (first | refine bN_ ?_ _ | refine bD_ ?_ | refine bA_ ?_ _)); exact BK216.out), (by (with_reducible repeat (first | refine bN_ ?_ _ | refine bD_ ?_ | refine bA_ ?_ _)); exact BK225.out), (by repeat (first | (with_reducible first | exact HI0.out | apply I81_.alloc | apply I81_.drewN | apply I81_.drew | apply I81_.set_1 | refine I81_.far ?_ NB0_216.out _ | refine I81_.far ?_ NB0_225.out _) | exact HI0.out)), (by repeat (first | (with_reducible first | exact HK.out | apply KeepBut.set_ | apply kN_ | apply kD_ | apply kA_ | refine kF_ ?_ GW216.out _ | refine kF_ ?_ GW225.out _) | exact HK.out)), (by repeat (first | (with_reducible first | exact HB.out | apply eA_ | apply pN_ | apply eD_ | refine eS_ ?_ (I81_.ge HI0.out) | refine eS_ ?_ GE216.out | refine eS_ ?_ GE225.out) | exact HB.out))⟩)
         rintro ⟨v227, adz_v227⟩ w68 ⟨hS_, h0_, h1_, h2_, h3_, h4_, h5_, h6_, h7_⟩
         have n0_ : Az_ (Kd.R (Kd.int .i64) 3 w68 w.heap.size (fun k_ => some k_ ≠ (v227 : Value).ownBlock) (.slice (some ad224) y219.length co57) y219) := ⟨h0_⟩
         have n1_ : Az_ (Kd.R (Kd.int .i64) 3 w68 w.heap.size (fun k_ => some k_ ≠ (.slice (some ad224) y219.length co57 : Value).ownBlock) v227 y226) := ⟨h1_⟩
         have n2_ : Az_ (∃ c_, (v227 : Value) = .slice (some adz_v227) y226.length c_) := ⟨h2_⟩
         have n3_ : Az_ (w68.heap[gb216]? = some (.cells #[.int .i64 0, .int .i64 0] 26 (0, 0))) := ⟨h3_⟩
         have n4_ : Az_ (w68.heap[gb225]? = some (.cells #[.int .i64 (rd y219 t222), .int .i64 0] 26 (0, 0))) := ⟨h4_⟩
         have n5_ : Az_ (I81_ w0 w68 g s0_0 t230) := ⟨h5_⟩
         have n6_ : Az_ (KeepBut w w68 g none) := ⟨h6_⟩
         have n7_ : Az_ (Below w0.heap.size w0 w68) := ⟨h7_⟩
         clear HO221
         clear BK216
         clear BK225
         clear HI0
         clear HK
         clear HB
         clear h0_ h1_ h2_ h3_ h4_ h5_ h6_ h7_
         have HO221 := n0_
         have HO228 := n1_
         have HA_HO228 := n2_
         have BK216 := n3_
         have BK225 := n4_
         have HI0 := n5_
         have HK := n6_
         have HB := n7_
         clear n0_ n1_ n2_ n3_ n4_ n5_ n6_ n7_
         have hHeld : w68.cell? ⟨gb225, 0, none⟩ = some (.int .i64 (rd y219 t222)) ∧ w68.cell? ⟨gb225, 1, none⟩ = some (.int .i64 0) := hS_
         obtain ⟨co69, eo69⟩ := HA_HO228.out
         clear HA_HO228
         subst eo69
         refine norm_ (a' := ?_) ?_ ?_
         rotate_left
         ·simp only [putAll, Act.put, List.setIfInBounds_toArray, List.set_cons_zero, List.set_cons_succ]
          rfl
         refine pure_ (i := 5) (N := some 19) (v := ?_) (a' := ?_) #[true, true, true, true, true, true, false, false, false, false] rfl rfl (any_of HT_.out (by kernel_rfl)) (fun _ _ _ h => h) (Or.inl ⟨by rfl, ?_⟩) ?_ ?_
         rotate_left
         ·intro w'
          go_simp
          with_reducible rfl
         rotate_left
         ·simp only [Act.put, List.setIfInBounds_toArray, List.set_cons_zero, List.set_cons_succ, i64_w, i32_w]
          rfl
         refine one_ (i := 6) (N := some 20) #[true, true, true, true, true, true, true, false, false, false] rfl rfl (one_of HT_.out (by kernel_rfl)) (by decide) (fun K hK => ?_)
         (have p231 : 0 ≤ (t229 : Int) := of_decide_eq_true (by first | (with_reducible assumption) | assumption); have q231 : t229 < (y226.length : Int) := of_decide_eq_true (by first | (with_reducible assumption) | assumption); obtain ⟨ad231, e231, hx231_0⟩ := Kd.at_int (Kd.R_reads' HO228.out).2.2 t229 p231 q231; obtain rfl : adz_v227 = ad231 := (by injection e231))
         refine value_ (w1 := ?_) (v := ?_) (by rfl) rfl ?_ ?_
         rotate_left 2
         ·go_simp
          constructor
          ·rfl
          ·rfl
         clear hx231_0
         refine hK.out _ _ ⟨(bC_ BK225.out 0).trans rfl, (bC_ BK225.out 1).trans rfl⟩ (fun hHeld => ?_)
         clear hK K
         refine norm_ (a' := ?_) ?_ ?_
         rotate_left
         ·show Act.put _ (some 20) _ = _
          simp only [Act.put, List.setIfInBounds_toArray, List.set_cons_zero, List.set_cons_succ, i64_w, i32_w]
          rfl
         refine pure_ (i := 7) (N := some 21) (v := ?_) (a' := ?_) #[true, true, true, true, true, true, true, true, false, false] rfl rfl (any_of HT_.out (by kernel_rfl)) (fun _ _ _ h => h) (Or.inl ⟨by rfl, ?_⟩) ?_ ?_
         rotate_left
         ·intro w'
          go_simp
          with_reducible rfl
         rotate_left
         ·simp only [Act.put, List.setIfInBounds_toArray, List.set_cons_zero, List.set_cons_succ, i64_w, i32_w]
          rfl
         refine pure_ (i := 8) (N := some 22) (v := ?_) (a' := ?_) #[true, true, true, true, true, true, true, true, true, false] rfl rfl (any_of HT_.out (by kernel_rfl)) (fun _ _ _ h => h) (Or.inl ⟨by rfl, ?_⟩) ?_ ?_
         rotate_left
         ·intro w'
          go_simp
          with_reducible rfl
         rotate_left
         ·simp only [Act.put, List.setIfInBounds_toArray, List.set_cons_zero, List.set_cons_succ, i64_w, i32_w]
          rfl
         refine last_ (i := 9) (N := none) #[true, true, true, true, true, true, true, true, true, true] rfl rfl (one_of HT_.out (by kernel_rfl)) (by decide) (fun K hK => ?_)
         have hs70 : w68.cell? ⟨gb225, 1, none⟩ = some (.int .i64 0) := (bC_ BK225.out 1).trans rfl
         have hfs70 := bF_ BK225.out 1
         have hns70_0 := NB216_225.out
         have hms70_0 := NB225_216.out
         refine skip_ (w1 := ?_) (by rfl) rfl ?_ ?_
         rotate_left
         ·go_simp
          rfl
         refine hK.out _ _ ?_
         clear hK K
         refine done_ (done_of HT_.out (by kernel_rfl)) ?_
         try go_wp2_with (first | ((with_reducible refine gate_callee (f := 53) rfl ?_); refine goesL_ (some 25) rfl rfl Try.func53 (by kernel_rfl) rfl #[.pointer (some ⟨g, 0, none⟩), .int .i64 a1] rfl (by (try simp only [List.map_toArray, List.map_cons, List.map_nil]); first | done | rfl | (simp only [List.length_drop, List.length_take]; rfl)) ?_; (with_reducible refine (spec_l20Rd_pick.calls k g s0_0 t230 a1 t232 t233 w0 _ ?side1 ?side2 A10.out).mono ?_); (case side1 => repeat (first | (with_reducible first | exact HI0.out | apply I81_.alloc | apply I81_.drewN | apply I81_.drew | apply I81_.set_1 | refine I81_.far ?_ NB0_216.out _ | refine I81_.far ?_ NB0_225.out _) | exact HI0.out)); (case side2 => repeat (first | (with_reducible first | exact HB.out | apply eA_ | apply pN_ | apply eD_ | refine eS_ ?_ (I81_.ge HI0.out) | refine eS_ ?_ GE216.out | refine eS_ ?_ GE225.out) | exact HB.out)); rintro e w71 ⟨rfl, hi, hb, hk⟩; refine ⟨_, rfl, ?_⟩; have n0_ := Az_.mk (KeepBut.blk hk (g' := gb216) (o := .cells #[.int .i64 0, .int .i64 0] 26 (0, 0)) (by (with_reducible repeat (first | refine bN_ ?_ _ | refine bD_ ?_ | refine bA_ ?_ _)); refine bR_ ?_ NB216_225.out _; (with_reducible repeat (first | refine bN_ ?_ _ | refine bD_ ?_ | refine bA_ ?_ _)); exact BK216.out) NB216_0.out (by simp)); have n1_ := Az_.mk (Kd.R_mono (Kd.R_keep (I81_.apart (show I81_ w0 _ g s0_0 t230 from by repeat (first | (with_reducible first | exact HI0.out | apply I81_.alloc | apply I81_.drewN | apply I81_.drew | apply I81_.set_1 | refine I81_.far ?_ NB0_216.out _ | refine I81_.far ?_ NB0_225.out _) | exact HI0.out)) (by (with_reducible repeat (first | apply Kd.R_alloc | apply Kd.R_drewN | apply Kd.R_drew)); exact (Kd.R_mono (Kd.R_far (p := ⟨gb225, 1, none⟩) (Kd.R_types HO221.out BK225.out (by decide)) (fun _ hk => hk.2) (.int .i64 (wrap64 ((rd y219 t222) + (rd y226 t229))))) (fun _ h_ => h_.1))) (by decide)) hk (fun _ h => h.2)) (fun _ h => h.1)); have n2_ := Az_.mk (KeepBut.blk hk (g' := gb225) (o := .cells #[.int .i64 (rd y219 t222), .int .i64 (wrap64 ((rd y219 t222) + (rd y226 t229)))] 26 (0, 0)) (by (with_reducible repeat (first | refine bN_ ?_ _ | refine bD_ ?_ | refine bA_ ?_ _)); refine bP_ (cs := #[.int .i64 (rd y219 t222), .int .i64 0]) ?_ 1 _ rfl; (with_reducible repeat (first | refine bN_ ?_ _ | refine bD_ ?_ | refine bA_ ?_ _)); exact BK225.out) NB225_0.out (by simp)); have n3_ := Az_.mk (Kd.R_mono (Kd.R_keep (I81_.apart (show I81_ w0 _ g s0_0 t230 from by repeat (first | (with_reducible first | exact HI0.out | apply I81_.alloc | apply I81_.drewN | apply I81_.drew | apply I81_.set_1 | refine I81_.far ?_ NB0_216.out _ | refine I81_.far ?_ NB0_225.out _) | exact HI0.out)) (by (with_reducible repeat (first | apply Kd.R_alloc | apply Kd.R_drewN | apply Kd.R_drew)); exact (Kd.R_mono (Kd.R_far (p := ⟨gb225, 1, none⟩) (Kd.R_types HO228.out BK225.out (by decide)) (fun _ hk => hk.2) (.int .i64 (wrap64 ((rd y219 t222) + (rd y226 t229))))) (fun _ h_ => h_.1))) (by decide)) hk (fun _ h => h.2)) (fun _ h => h.1)); have n4_ := Az_.mk (KeepBut.trans (by repeat (first | (with_reducible first | exact HK.out | apply KeepBut.set_ | apply kN_ | apply kD_ | apply kA_ | refine kF_ ?_ GW216.out _ | refine kF_ ?_ GW225.out _) | exact HK.out)) hk (.inl rfl)); have n5_ := Az_.mk (hb); have n6_ := Az_.mk (hi); clear BK216; clear HO221; clear BK225; clear HO228; clear HK; clear HB; clear HI0; have BK216 := n0_; have HO221 := n1_; have BK225 := n2_; have HO228 := n3_; have HK := n4_; have HB := n5_; have HI0 := n6_; clear n0_ n1_ n2_ n3_ n4_ n5_ n6_; (try clear hb); (try clear hb2); (try clear hk); (try clear hi)) | ((with_reducible refine gate_callee (f := 53) rfl ?_); refine goesL_ (some 28) rfl rfl Try.func53 (by kernel_rfl) rfl #[.pointer (some ⟨g, 0, none⟩), .int .i64 2] rfl (by (try simp only [List.map_toArray, List.map_cons, List.map_nil]); first | done | rfl | (simp only [List.length_drop, List.length_take]; rfl)) ?_; (with_reducible refine (spec_l20Rd_pick.calls k g s0_0 t233 2 t234 t235 w0 _ ?side1 ?side2 A12.out).mono ?_); (case side1 => repeat (first | (with_reducible first | exact HI0.out | apply I81_.alloc | apply I81_.drewN | apply I81_.drew | apply I81_.set_1 | refine I81_.far ?_ NB0_216.out _ | refine I81_.far ?_ NB0_225.out _) | exact HI0.out)); (case side2 => repeat (first | (with_reducible first | exact HB.out | apply eA_ | apply pN_ | apply eD_ | refine eS_ ?_ (I81_.ge HI0.out) | refine eS_ ?_ GE216.out | refine eS_ ?_ GE225.out) | exact HB.out)); rintro e w72 ⟨rfl, hi, hb, hk⟩; refine ⟨_, rfl, ?_⟩; have n0_ := Az_.mk (KeepBut.blk hk (g' := gb216) (o := .cells #[.int .i64 0, .int .i64 0] 26 (0, 0)) (by (with_reducible repeat (first | refine bN_ ?_ _ | refine bD_ ?_ | refine bA_ ?_ _)); exact BK216.out) NB216_0.out (by simp)); have n1_ := Az_.mk (Kd.R_mono (Kd.R_keep (I81_.apart (show I81_ w0 _ g s0_0 t233 from by repeat (first | (with_reducible first | exact HI0.out | apply I81_.alloc | apply I81_.drewN | apply I81_.drew | apply I81_.set_1 | refine I81_.far ?_ NB0_216.out _ | refine I81_.far ?_ NB0_225.out _) | exact HI0.out)) (by (with_reducible repeat (first | apply Kd.R_alloc | apply Kd.R_drewN | apply Kd.R_drew)); exact HO221.out) (by decide)) hk (fun _ h => h.2)) (fun _ h => h.1)); have n2_ := Az_.mk (KeepBut.blk hk (g' := gb225) (o := .cells #[.int .i64 (rd y219 t222), .int .i64 (wrap64 ((rd y219 t222) + (rd y226 t229)))] 26 (0, 0)) (by (with_reducible repeat (first | refine bN_ ?_ _ | refine bD_ ?_ | refine bA_ ?_ _)); exact BK225.out) NB225_0.out (by simp)); have n3_ := Az_.mk (Kd.R_mono (Kd.R_keep (I81_.apart (show I81_ w0 _ g s0_0 t233 from by repeat (first | (with_reducible first | exact HI0.out | apply I81_.alloc | apply I81_.drewN | apply I81_.drew | apply I81_.set_1 | refine I81_.far ?_ NB0_216.out _ | refine I81_.far ?_ NB0_225.out _) | exact HI0.out)) (by (with_reducible repeat (first | apply Kd.R_alloc | apply Kd.R_drewN | apply Kd.R_drew)); exact HO228.out) (by decide)) hk (fun _ h => h.2)) (fun _ h => h.1)); have n4_ := Az_.mk (KeepBut.trans (by repeat (first | (with_reducible first | exact HK.out | apply KeepBut.set_ | apply kN_ | apply kD_ | apply kA_ | refine kF_ ?_ GW216.out _ | refine kF_ ?_ GW225.out _) | exact HK.out)) hk (.inl rfl)); have n5_ := Az_.mk (hb); have n6_ := Az_.mk (hi); clear BK216; clear HO221; clear BK225; clear HO228; clear HK; clear HB; clear HI0; have BK216 := n0_; have HO221 := n1_; have BK225 := n2_; have HO228 := n3_; have HK := n4_; have HB := n5_; have HI0 := n6_; clear n0_ n1_ n2_ n3_ n4_ n5_ n6_; (try clear hb); (try clear hb2); (try clear hk); (try clear hi)) | ((with_reducible refine gate_dst (N := 38) rfl ?_); refine Kd.R_lit (Kd.int .i64) _ 3 ?hg (N := 38) ?hd (xs := ([121, 120, 0, (-1)] : List Int)) (inner := [.int .i64 121, .int .i64 120, .int .i64 0, .int .i64 (-1)]) (ok := fun _ => True) (okp := fun _ => True) ?hr ?hp (fun _ hk => hk) trivial (Below.refl _ _) (Nat.le_refl _) (by simp) ?_; (case hd => rfl); (case hg => rfl); (case hr => first | (go_simp; done) | (go_simp; rfl)); (case hp => exact (Reps.one (show Kd.M (Kd.int .i64) _ _ _ 121 [.int .i64 121] from rfl) (Reps.one (show Kd.M (Kd.int .i64) _ _ _ 120 [.int .i64 120] from rfl) (Reps.one (show Kd.M (Kd.int .i64) _ _ _ 0 [.int .i64 0] from rfl) (Reps.one (show Kd.M (Kd.int .i64) _ _ _ (-1) [.int .i64 (-1)] from rfl) (Reps.none _ _)))))); intro v243 w73 ho74 hb hg_ hnew_; clear hg_ hnew_; (first | rw [← Ny242.out] at ho74 | (simp only [Int.reduceToNat] at ho74; rw [← Ny242.out] at ho74)); have n0_ := Az_.mk (Kd.R_elder' (by (with_reducible repeat (first | apply Kd.R_alloc | apply Kd.R_drewN | apply Kd.R_drew)); exact HO221.out) (Kd.R_base ho74) hb); have n1_ := Az_.mk (Kd.R_elder' (by (with_reducible repeat (first | apply Kd.R_alloc | apply Kd.R_drewN | apply Kd.R_drew)); exact HO228.out) (Kd.R_base ho74) hb); have n2_ := Az_.mk (Kd.R_lower (Kd.R_new' (Kd.R_new' ho74 (Kd.R_lt (by (with_reducible repeat (first | apply Kd.R_alloc | apply Kd.R_drewN | apply Kd.R_drew)); exact HO221.out))) (Kd.R_lt (by (with_reducible repeat (first | apply Kd.R_alloc | apply Kd.R_drewN | apply Kd.R_drew)); exact HO228.out))) (keep_size (w := w) (g := g) (row := none) (by repeat (first | (with_reducible first | exact HK.out | apply KeepBut.set_ | apply kN_ | apply kD_ | apply kA_ | refine kF_ ?_ GW216.out _ | refine kF_ ?_ GW225.out _) | exact HK.out)))); have n3_ := Az_.mk (I81_.below (by repeat (first | (with_reducible first | exact HI0.out | apply I81_.alloc | apply I81_.drewN | apply I81_.drew | apply I81_.set_1 | refine I81_.far ?_ NB0_216.out _ | refine I81_.far ?_ NB0_225.out _) | exact HI0.out)) hb); have n4_ := Az_.mk (bB_ (g := gb216) (o := .cells #[.int .i64 0, .int .i64 0] 26 (0, 0)) (by (with_reducible repeat (first | refine bN_ ?_ _ | refine bD_ ?_ | refine bA_ ?_ _)); exact BK216.out) hb); have n5_ := Az_.mk (bB_ (g := gb225) (o := .cells #[.int .i64 (rd y219 t222), .int .i64 (wrap64 ((rd y219 t222) + (rd y226 t229)))] 26 (0, 0)) (by (with_reducible repeat (first | refine bN_ ?_ _ | refine bD_ ?_ | refine bA_ ?_ _)); exact BK225.out) hb); have n6_ := Az_.mk (KeepBut.trans (by repeat (first | (with_reducible first | exact HK.out | apply KeepBut.set_ | apply kN_ | apply kD_ | apply kA_ | refine kF_ ?_ GW216.out _ | refine kF_ ?_ GW225.out _) | exact HK.out)) (KeepBut.of_below hb g none) (.inl rfl)); have n7_ := Az_.mk (below_step (by repeat (first | (with_reducible first | exact HB.out | apply eA_ | apply pN_ | apply eD_ | refine eS_ ?_ (I81_.ge HI0.out) | refine eS_ ?_ GE216.out | refine eS_ ?_ GE225.out) | exact HB.out)) hb); clear HO221; clear HO228; clear HI0; clear BK216; clear BK225; clear HK; clear HB; have HO221 := n0_; have HO228 := n1_; have HO244 := n2_; have HI0 := n3_; have BK216 := n4_; have BK225 := n5_; have HK := n6_; have HB := n7_; clear n0_ n1_ n2_ n3_ n4_ n5_ n6_ n7_; clear hb ho74) | ((with_reducible refine gate_callee (f := 53) rfl ?_); refine goesL_ (some 40) rfl rfl Try.func53 (by kernel_rfl) rfl #[.pointer (some ⟨g, 0, none⟩), .int .i64 4] rfl (by (try simp only [List.map_toArray, List.map_cons, List.map_nil]); first | done | rfl | (simp only [List.length_drop, List.length_take]; rfl)) ?_; (with_reducible refine (spec_l20Rd_pick.calls k g s0_0 t235 4 t245 t246 w0 _ ?side1 ?side2 A49.out).mono ?_); (case side1 => repeat (first | (with_reducible first | exact HI0.out | apply I81_.alloc | apply I81_.drewN | apply I81_.drew | apply I81_.set_1 | refine I81_.far ?_ NB0_216.out _ | refine I81_.far ?_ NB0_225.out _) | exact HI0.out)); (case side2 => repeat (first | (with_reducible first | exact HB.out | apply eA_ | apply pN_ | apply eD_ | refine eS_ ?_ (I81_.ge HI0.out) | refine eS_ ?_ GE216.out | refine eS_ ?_ GE225.out) | exact HB.out)); rintro e w75 ⟨rfl, hi, hb, hk⟩; refine ⟨_, rfl, ?_⟩; have n0_ := Az_.mk (KeepBut.blk hk (g' := gb216) (o := .cells #[.int .i64 0, .int .i64 0] 26 (0, 0)) (by (with_reducible repeat (first | refine bN_ ?_ _ | refine bD_ ?_ | refine bA_ ?_ _)); exact BK216.out) NB216_0.out (by simp)); have n1_ := Az_.mk (Kd.R_mono (Kd.R_keep (I81_.apart (show I81_ w0 _ g s0_0 t235 from by repeat (first | (with_reducible first | exact HI0.out | apply I81_.alloc | apply I81_.drewN | apply I81_.drew | apply I81_.set_1 | refine I81_.far ?_ NB0_216.out _ | refine I81_.far ?_ NB0_225.out _) | exact HI0.out)) (by (with_reducible repeat (first | apply Kd.R_alloc | apply Kd.R_drewN | apply Kd.R_drew)); exact HO221.out) (by decide)) hk (fun _ h => h.2)) (fun _ h => h.1)); have n2_ := Az_.mk (KeepBut.blk hk (g' := gb225) (o := .cells #[.int .i64 (rd y219 t222), .int .i64 (wrap64 ((rd y219 t222) + (rd y226 t229)))] 26 (0, 0)) (by (with_reducible repeat (first | refine bN_ ?_ _ | refine bD_ ?_ | refine bA_ ?_ _)); exact BK225.out) NB225_0.out (by simp)); have n3_ := Az_.mk (Kd.R_mono (Kd.R_keep (I81_.apart (show I81_ w0 _ g s0_0 t235 from by repeat (first | (with_reducible first | exact HI0.out | apply I81_.alloc | apply I81_.drewN | apply I81_.drew | apply I81_.set_1 | refine I81_.far ?_ NB0_216.out _ | refine I81_.far ?_ NB0_225.out _) | exact HI0.out)) (by (with_reducible repeat (first | apply Kd.R_alloc | apply Kd.R_drewN | apply Kd.R_drew)); exact HO228.out) (by decide)) hk (fun _ h => h.2)) (fun _ h => h.1)); have n4_ := Az_.mk (Kd.R_mono (Kd.R_keep (I81_.apart (show I81_ w0 _ g s0_0 t235 from by repeat (first | (with_reducible first | exact HI0.out | apply I81_.alloc | apply I81_.drewN | apply I81_.drew | apply I81_.set_1 | refine I81_.far ?_ NB0_216.out _ | refine I81_.far ?_ NB0_225.out _) | exact HI0.out)) (by (with_reducible repeat (first | apply Kd.R_alloc | apply Kd.R_drewN | apply Kd.R_drew)); exact HO244.out) (by decide)) hk (fun _ h => h.2)) (fun _ h => h.1)); have n5_ := Az_.mk (KeepBut.trans (by repeat (first | (with_reducible first | exact HK.out | apply KeepBut.set_ | apply kN_ | apply kD_ | apply kA_ | refine kF_ ?_ GW216.out _ | refine kF_ ?_ GW225.out _) | exact HK.out)) hk (.inl rfl)); have n6_ := Az_.mk (hb); have n7_ := Az_.mk (hi); clear BK216; clear HO221; clear BK225; clear HO228; clear HO244; clear HK; clear HB; clear HI0; have BK216 := n0_; have HO221 := n1_; have BK225 := n2_; have HO228 := n3_; have HO244 := n4_; have HK := n5_; have HB := n6_; have HI0 := n7_; clear n0_ n1_ n2_ n3_ n4_ n5_ n6_ n7_; (try clear hb); (try clear hb2); (try clear hk); (try clear hi); obtain ⟨Ao76, co76, eo76⟩ := Kd.R_slice HO244.out; subst eo76; have p247 : 0 ≤ (t245 : Int) := of_decide_eq_true (by first | (with_reducible assumption) | assumption); have q247 : t245 < (y242.length : Int) := of_decide_eq_true (by first | (with_reducible assumption) | assumption); obtain ⟨ad247, e247, hx247_0⟩ := Kd.at_int (Kd.R_reads' HO244.out).2.2 t245 p247 q247; cases e247; replace p247 := eq_true p247; replace q247 := eq_true q247; have hcz77_0 : w75.cell? ⟨gb225, 0, none⟩ = some (.int .i64 (rd y219 t222)) := (bC_ BK225.out 0).trans rfl; have hcz77_1 : w75.cell? ⟨gb225, 1, none⟩ = some (.int .i64 (wrap64 ((rd y219 t222) + (rd y226 t229)))) := (bC_ BK225.out 1).trans rfl; have hfz77_0 := bF_ BK225.out 0; have hfz77_1 := bF_ BK225.out 1; have hnb78 := NB216_0.out; have hnc78 := NB0_216.out; have hcz79_0 : w75.cell? ⟨gb216, 0, none⟩ = some (.int .i64 0) := (bC_ BK216.out 0).trans rfl; have hcz79_1 : w75.cell? ⟨gb216, 1, none⟩ = some (.int .i64 0) := (bC_ BK216.out 1).trans rfl; have hfz79_0 := bF_ BK216.out 0; have hfz79_1 := bF_ BK216.out 1))
         refine bodyPost_ret (results_cell_row rfl _ _ gb216 26 #[.int .i64 (rd y219 t222), .int .i64 (rd y242 t245)] (0, 0) _ rfl (by (with_reducible repeat (first | refine bN_ ?_ _ | refine bD_ ?_ | refine bA_ ?_ _)); refine bP_ (cs := #[.int .i64 (rd y219 t222), .int .i64 0]) ?_ 1 _ rfl; (with_reducible repeat (first | refine bN_ ?_ _ | refine bD_ ?_ | refine bA_ ?_ _)); refine bP_ (cs := #[.int .i64 0, .int .i64 0]) ?_ 0 _ rfl; (with_reducible repeat (first | refine bN_ ?_ _ | refine bD_ ?_ | refine bA_ ?_ _)); refine bR_ ?_ NB216_225.out _; (with_reducible repeat (first | refine bN_ ?_ _ | refine bD_ ?_ | refine bA_ ?_ _)); exact BK216.out) Try.underlying26 rfl (by kernel_rfl)) rfl ?_
         exact ⟨by first | rfl | (simp [errW_none, errW_some] <;> rfl) | (simp [*, errW_none, errW_some] <;> rfl), by repeat (first | (with_reducible first | exact HI0.out | apply I81_.alloc | apply I81_.drewN | apply I81_.drew | apply I81_.set_1 | refine I81_.far ?_ NB0_216.out _ | refine I81_.far ?_ NB0_225.out _) | exact HI0.out), by repeat (first | (with_reducible first | exact HB.out | apply eA_ | apply pN_ | apply eD_ | refine eS_ ?_ (I81_.ge HI0.out) | refine eS_ ?_ GE216.out | refine eS_ ?_ GE225.out) | exact HB.out), by repeat (first | (with_reducible first | exact HK.out | apply KeepBut.set_ | apply kN_ | apply kD_ | apply kA_ | refine kF_ ?_ GW216.out _ | refine kF_ ?_ GW225.out _) | exact HK.out)⟩
        ·rw [if_neg c51] at H
         exact absurd H (by simp)
       ·rw [if_neg c50] at H
        exact absurd H (by simp)
     ·rw [if_neg c11] at H
      have c11b0 : (t232 == 0) = false := beq_eq_false_iff_ne.mpr c11
      have c11b1 : (t232 != 0) = true := bne_iff_ne.mpr c11
      simp only [Option.some.injEq, Prod.mk.injEq] at H
      obtain ⟨rfl, rfl, rfl⟩ := H
      go_enter Try.func67, Try.ntmps67
      try go_wp2_with (first | ((with_reducible refine gate_dst (N := 4) rfl ?_); refine box_event ?hg (N := 4) ?hd (cs := #[.int .i64 0, .int .i64 0]) (t := 26) ?hr ?_; (case hd => rfl); (case hg => rfl); (case hr => first | (go_simp; done) | (go_simp; rfl)); intro gb216 hg w80 hbox hb; have n0_ := Az_.mk (I81_.below (by repeat (first | (with_reducible first | exact HI0.out | apply I81_.alloc | apply I81_.drewN | apply I81_.drew | apply I81_.set_1) | exact HI0.out)) hb); have n1_ := Az_.mk (KeepBut.trans (by repeat (first | (with_reducible first | exact HK.out | apply KeepBut.set_ | apply kN_ | apply kD_ | apply kA_) | exact HK.out)) (KeepBut.of_below hb g none) (.inl rfl)); have n2_ := Az_.mk (below_step (by repeat (first | (with_reducible first | exact HB.out | apply eA_ | apply pN_ | apply eD_ | refine eS_ ?_ (I81_.ge HI0.out)) | exact HB.out)) hb); have n3_ := Az_.mk (hbox); have n4_ := Az_.mk ((by rw [hg]; exact (keep_size (w := w) (g := g) (row := none) (by repeat (first | (with_reducible first | exact HK.out | apply KeepBut.set_ | apply kN_ | apply kD_ | apply kA_) | exact HK.out))) : w.heap.size ≤ gb216)); have n5_ := Az_.mk ((Nat.le_trans HW0.out (by rw [hg]; exact (keep_size (w := w) (g := g) (row := none) (by repeat (first | (with_reducible first | exact HK.out | apply KeepBut.set_ | apply kN_ | apply kD_ | apply kA_) | exact HK.out))) : w.heap.size ≤ gb216) : w0.heap.size ≤ gb216)); have n6_ := Az_.mk ((by rw [hg]; exact Nat.ne_of_lt (Nat.lt_of_lt_of_le HG0.out (keep_size (w := w) (g := g) (row := none) (by repeat (first | (with_reducible first | exact HK.out | apply KeepBut.set_ | apply kN_ | apply kD_ | apply kA_) | exact HK.out)))) : g ≠ gb216)); have n7_ := Az_.mk ((by rw [hg]; exact Nat.ne_of_gt (Nat.lt_of_lt_of_le HG0.out (keep_size (w := w) (g := g) (row := none) (by repeat (first | (with_reducible first | exact HK.out | apply KeepBut.set_ | apply kN_ | apply kD_ | apply kA_) | exact HK.out)))) : gb216 ≠ g)); clear HI0; clear HK; clear HB; have HI0 := n0_; have HK := n1_; have HB := n2_; have BK216 := n3_; have GW216 := n4_; have GE216 := n5_; have NB0_216 := n6_; have NB216_0 := n7_; clear n0_ n1_ n2_ n3_ n4_ n5_ n6_ n7_; clear hb hbox hg) | ((with_reducible refine gate_callee (f := 53) rfl ?_); refine goesL_ (some 7) rfl rfl Try.func53 (by kernel_rfl) rfl #[.pointer (some ⟨g, 0, none⟩), .int .i64 40] rfl (by (try simp only [List.map_toArray, List.map_cons, List.map_nil]); first | done | rfl | (simp only [List.length_drop, List.length_take]; rfl)) ?_; (with_reducible refine (spec_l20Rd_pick.calls k g s0_0 s0_1 40 t217 t218 w0 _ ?side1 ?side2 A3.out).mono ?_); (case side1 => repeat (first | (with_reducible first | exact HI0.out | apply I81_.alloc | apply I81_.drewN | apply I81_.drew | apply I81_.set_1 | refine I81_.far ?_ NB0_216.out _) | exact HI0.out)); (case side2 => repeat (first | (with_reducible first | exact HB.out | apply eA_ | apply pN_ | apply eD_ | refine eS_ ?_ (I81_.ge HI0.out) | refine eS_ ?_ GE216.out) | exact HB.out)); rintro e w81 ⟨rfl, hi, hb, hk⟩; refine ⟨_, rfl, ?_⟩; have n0_ := Az_.mk (KeepBut.blk hk (g' := gb216) (o := .cells #[.int .i64 0, .int .i64 0] 26 (0, 0)) (by (with_reducible repeat (first | refine bN_ ?_ _ | refine bD_ ?_ | refine bA_ ?_ _)); exact BK216.out) NB216_0.out (by simp)); have n1_ := Az_.mk (KeepBut.trans (by repeat (first | (with_reducible first | exact HK.out | apply KeepBut.set_ | apply kN_ | apply kD_ | apply kA_ | refine kF_ ?_ GW216.out _) | exact HK.out)) hk (.inl rfl)); have n2_ := Az_.mk (hb); have n3_ := Az_.mk (hi); clear BK216; clear HK; clear HB; clear HI0; have BK216 := n0_; have HK := n1_; have HB := n2_; have HI0 := n3_; clear n0_ n1_ n2_ n3_; (try clear hb); (try clear hb2); (try clear hk); (try clear hi)) | ((with_reducible refine gate_dst (N := 8) rfl ?_); refine Kd.R_lit (Kd.int .i64) _ 3 ?hg (N := 8) ?hd (xs := ([0, 5, 20, 60, t217] : List Int)) (inner := [.int .i64 0, .int .i64 5, .int .i64 20, .int .i64 60, .int .i64 t217]) (ok := fun _ => True) (okp := fun _ => True) ?hr ?hp (fun _ hk => hk) trivial (Below.refl _ _) (Nat.le_refl _) (by simp) ?_; (case hd => rfl); (case hg => rfl); (case hr => first | (go_simp; done) | (go_simp; rfl)); (case hp => exact (Reps.one (show Kd.M (Kd.int .i64) _ _ _ 0 [.int .i64 0] from rfl) (Reps.one (show Kd.M (Kd.int .i64) _ _ _ 5 [.int .i64 5] from rfl) (Reps.one (show Kd.M (Kd.int .i64) _ _ _ 20 [.int .i64 20] from rfl) (Reps.one (show Kd.M (Kd.int .i64) _ _ _ 60 [.int .i64 60] from rfl) (Reps.one (show Kd.M (Kd.int .i64) _ _ _ t217 [.int .i64 t217] from rfl) (Reps.none _ _))))))); intro v220 w82 ho83 hb hg_ hnew_; clear hg_ hnew_; (first | rw [← Ny219.out] at ho83 | (simp only [Int.reduceToNat] at ho83; rw [← Ny219.out] at ho83)); have n0_ := Az_.mk (Kd.R_lower ho83 (keep_size (w := w) (g := g) (row := none) (by repeat (first | (with_reducible first | exact HK.out | apply KeepBut.set_ | apply kN_ | apply kD_ | apply kA_ | refine kF_ ?_ GW216.out _) | exact HK.out)))); have n1_ := Az_.mk (I81_.below (by repeat (first | (with_reducible first | exact HI0.out | apply I81_.alloc | apply I81_.drewN | apply I81_.drew | apply I81_.set_1 | refine I81_.far ?_ NB0_216.out _) | exact HI0.out)) hb); have n2_ := Az_.mk (bB_ (g := gb216) (o := .cells #[.int .i64 0, .int .i64 0] 26 (0, 0)) (by (with_reducible repeat (first | refine bN_ ?_ _ | refine bD_ ?_ | refine bA_ ?_ _)); exact BK216.out) hb); have n3_ := Az_.mk (KeepBut.trans (by repeat (first | (with_reducible first | exact HK.out | apply KeepBut.set_ | apply kN_ | apply kD_ | apply kA_ | refine kF_ ?_ GW216.out _) | exact HK.out)) (KeepBut.of_below hb g none) (.inl rfl)); have n4_ := Az_.mk (below_step (by repeat (first | (with_reducible first | exact HB.out | apply eA_ | apply pN_ | apply eD_ | refine eS_ ?_ (I81_.ge HI0.out) | refine eS_ ?_ GE216.out) | exact HB.out)) hb); clear HI0; clear BK216; clear HK; clear HB; have HO221 := n0_; have HI0 := n1_; have BK216 := n2_; have HK := n3_; have HB := n4_; clear n0_ n1_ n2_ n3_ n4_; clear hb ho83) | ((with_reducible refine gate_callee (f := 53) rfl ?_); refine goesL_ (some 10) rfl rfl Try.func53 (by kernel_rfl) rfl #[.pointer (some ⟨g, 0, none⟩), .int .i64 5] rfl (by (try simp only [List.map_toArray, List.map_cons, List.map_nil]); first | done | rfl | (simp only [List.length_drop, List.length_take]; rfl)) ?_; (with_reducible refine (spec_l20Rd_pick.calls k g s0_0 t218 5 t222 t223 w0 _ ?side1 ?side2 A4.out).mono ?_); (case side1 => repeat (first | (with_reducible first | exact HI0.out | apply I81_.alloc | apply I81_.drewN | apply I81_.drew | apply I81_.set_1 | refine I81_.far ?_ NB0_216.out _) | exact HI0.out)); (case side2 => repeat (first | (with_reducible first | exact HB.out | apply eA_ | apply pN_ | apply eD_ | refine eS_ ?_ (I81_.ge HI0.out) | refine eS_ ?_ GE216.out) | exact HB.out)); rintro e w84 ⟨rfl, hi, hb, hk⟩; refine ⟨_, rfl, ?_⟩; have n0_ := Az_.mk (KeepBut.blk hk (g' := gb216) (o := .cells #[.int .i64 0, .int .i64 0] 26 (0, 0)) (by (with_reducible repeat (first | refine bN_ ?_ _ | refine bD_ ?_ | refine bA_ ?_ _)); exact BK216.out) NB216_0.out (by simp)); have n1_ := Az_.mk (Kd.R_mono (Kd.R_keep (I81_.apart (show I81_ w0 _ g s0_0 t218 from by repeat (first | (with_reducible first | exact HI0.out | apply I81_.alloc | apply I81_.drewN | apply I81_.drew | apply I81_.set_1 | refine I81_.far ?_ NB0_216.out _) | exact HI0.out)) (by (with_reducible repeat (first | apply Kd.R_alloc | apply Kd.R_drewN | apply Kd.R_drew)); exact HO221.out) (by decide)) hk (fun _ h => h.2)) (fun _ h => h.1)); have n2_ := Az_.mk (KeepBut.trans (by repeat (first | (with_reducible first | exact HK.out | apply KeepBut.set_ | apply kN_ | apply kD_ | apply kA_ | refine kF_ ?_ GW216.out _) | exact HK.out)) hk (.inl rfl)); have n3_ := Az_.mk (hb); have n4_ := Az_.mk (hi); clear BK216; clear HO221; clear HK; clear HB; clear HI0; have BK216 := n0_; have HO221 := n1_; have HK := n2_; have HB := n3_; have HI0 := n4_; clear n0_ n1_ n2_ n3_ n4_; (try clear hb); (try clear hb2); (try clear hk); (try clear hi); obtain ⟨Ao85, co85, eo85⟩ := Kd.R_slice HO221.out; subst eo85; have p224 : 0 ≤ (t222 : Int) := of_decide_eq_true (by first | (with_reducible assumption) | assumption); have q224 : t222 < (y219.length : Int) := of_decide_eq_true (by first | (with_reducible assumption) | assumption); obtain ⟨ad224, e224, hx224_0⟩ := Kd.at_int (Kd.R_reads' HO221.out).2.2 t222 p224 q224; cases e224; replace p224 := eq_true p224; replace q224 := eq_true q224) | ((with_reducible refine gate_dst (N := 5) rfl ?_); refine box_event ?hg (N := 5) ?hd (cs := #[.int .i64 0, .int .i64 0]) (t := 26) ?hr ?_; (case hd => rfl); (case hg => rfl); (case hr => first | (go_simp; done) | (go_simp; rfl)); intro gb225 hg w86 hbox hb; have n0_ := Az_.mk (Kd.R_below (by (with_reducible repeat (first | apply Kd.R_alloc | apply Kd.R_drewN | apply Kd.R_drew)); exact HO221.out) hb); have n1_ := Az_.mk (I81_.below (by repeat (first | (with_reducible first | exact HI0.out | apply I81_.alloc | apply I81_.drewN | apply I81_.drew | apply I81_.set_1 | refine I81_.far ?_ NB0_216.out _) | exact HI0.out)) hb); have n2_ := Az_.mk (bB_ (g := gb216) (o := .cells #[.int .i64 0, .int .i64 0] 26 (0, 0)) (by (with_reducible repeat (first | refine bN_ ?_ _ | refine bD_ ?_ | refine bA_ ?_ _)); exact BK216.out) hb); have n3_ := Az_.mk (KeepBut.trans (by repeat (first | (with_reducible first | exact HK.out | apply KeepBut.set_ | apply kN_ | apply kD_ | apply kA_ | refine kF_ ?_ GW216.out _) | exact HK.out)) (KeepBut.of_below hb g none) (.inl rfl)); have n4_ := Az_.mk (below_step (by repeat (first | (with_reducible first | exact HB.out | apply eA_ | apply pN_ | apply eD_ | refine eS_ ?_ (I81_.ge HI0.out) | refine eS_ ?_ GE216.out) | exact HB.out)) hb); have n5_ := Az_.mk (hbox); have n6_ := Az_.mk ((by rw [hg]; exact (keep_size (w := w) (g := g) (row := none) (by repeat (first | (with_reducible first | exact HK.out | apply KeepBut.set_ | apply kN_ | apply kD_ | apply kA_ | refine kF_ ?_ GW216.out _) | exact HK.out))) : w.heap.size ≤ gb225)); have n7_ := Az_.mk ((Nat.le_trans HW0.out (by rw [hg]; exact (keep_size (w := w) (g := g) (row := none) (by repeat (first | (with_reducible first | exact HK.out | apply KeepBut.set_ | apply kN_ | apply kD_ | apply kA_ | refine kF_ ?_ GW216.out _) | exact HK.out))) : w.heap.size ≤ gb225) : w0.heap.size ≤ gb225)); have n8_ := Az_.mk ((by rw [hg]; exact Nat.ne_of_lt (blk_lt (g := gb216) (o := .cells #[.int .i64 0, .int .i64 0] 26 (0, 0)) (by (with_reducible repeat (first | refine bN_ ?_ _ | refine bD_ ?_ | refine bA_ ?_ _)); exact BK216.out)) : gb216 ≠ gb225)); have n9_ := Az_.mk ((by rw [hg]; exact Nat.ne_of_gt (blk_lt (g := gb216) (o := .cells #[.int .i64 0, .int .i64 0] 26 (0, 0)) (by (with_reducible repeat (first | refine bN_ ?_ _ | refine bD_ ?_ | refine bA_ ?_ _)); exact BK216.out)) : gb225 ≠ gb216)); have n10_ := Az_.mk ((by rw [hg]; exact Nat.ne_of_lt (Nat.lt_of_lt_of_le HG0.out (keep_size (w := w) (g := g) (row := none) (by repeat (first | (with_reducible first | exact HK.out | apply KeepBut.set_ | apply kN_ | apply kD_ | apply kA_ | refine kF_ ?_ GW216.out _) | exact HK.out)))) : g ≠ gb225)); have n11_ := Az_.mk ((by rw [hg]; exact Nat.ne_of_gt (Nat.lt_of_lt_of_le HG0.out (keep_size (w := w) (g := g) (row := none) (by repeat (first | (with_reducible first | exact HK.out | apply KeepBut.set_ | apply kN_ | apply kD_ | apply kA_ | refine kF_ ?_ GW216.out _) | exact HK.out)))) : gb225 ≠ g)); clear HO221; clear HI0; clear BK216; clear HK; clear HB; have HO221 := n0_; have HI0 := n1_; have BK216 := n2_; have HK := n3_; have HB := n4_; have BK225 := n5_; have GW225 := n6_; have GE225 := n7_; have NB216_225 := n8_; have NB225_216 := n9_; have NB0_225 := n10_; have NB225_0 := n11_; clear n0_ n1_ n2_ n3_ n4_ n5_ n6_ n7_ n8_ n9_ n10_ n11_; clear hb hbox hg; have hnb87 := NB225_216.out; have hnc87 := NB216_225.out; have hnb88 := NB225_0.out; have hnc88 := NB0_225.out; have hcz89_0 : w86.cell? ⟨gb225, 0, none⟩ = some (.int .i64 0) := (bC_ BK225.out 0).trans rfl; have hcz89_1 : w86.cell? ⟨gb225, 1, none⟩ = some (.int .i64 0) := (bC_ BK225.out 1).trans rfl; have hfz89_0 := bF_ BK225.out 0; have hfz89_1 := bF_ BK225.out 1))
      have pi231 : (0 ≤ (t229 : Int)) = True := eq_true (of_decide_eq_true (by first | (with_reducible assumption) | assumption))
      have qi231 : (t229 < (y226.length : Int)) = True := eq_true (of_decide_eq_true (by first | (with_reducible assumption) | assumption))
      have n0_ : Az_ (Kd.R (Kd.int .i64) 3 ((w86.setCell ⟨gb225, 0, none⟩ (.int .i64 (rd y219 t222))).setCell ⟨gb225, 1, none⟩ (.int .i64 0)) w.heap.size (fun _ => True) (.slice (some ad224) y219.length co85) y219) := ⟨by (with_reducible repeat (first | apply Kd.R_alloc | apply Kd.R_drewN | apply Kd.R_drew)); exact Kd.R_mono (Kd.R_far (p := ⟨gb225, 1, none⟩) (Kd.R_far (p := ⟨gb225, 0, none⟩) (Kd.R_types HO221.out BK225.out (by decide)) (fun _ hk => hk.2) (.int .i64 (rd y219 t222))) (fun _ hk => hk.2) (.int .i64 0)) (fun _ hk => trivial)⟩
      have n1_ : Az_ (((w86.setCell ⟨gb225, 0, none⟩ (.int .i64 (rd y219 t222))).setCell ⟨gb225, 1, none⟩ (.int .i64 0)).heap[gb216]? = some (.cells #[.int .i64 0, .int .i64 0] 26 (0, 0))) := ⟨by (with_reducible repeat (first | refine bN_ ?_ _ | refine bD_ ?_ | refine bA_ ?_ _)); refine bR_ ?_ NB216_225.out _; (with_reducible repeat (first | refine bN_ ?_ _ | refine bD_ ?_ | refine bA_ ?_ _)); refine bR_ ?_ NB216_225.out _; (with_reducible repeat (first | refine bN_ ?_ _ | refine bD_ ?_ | refine bA_ ?_ _)); exact BK216.out⟩
      have n2_ : Az_ (((w86.setCell ⟨gb225, 0, none⟩ (.int .i64 (rd y219 t222))).setCell ⟨gb225, 1, none⟩ (.int .i64 0)).heap[gb225]? = some (.cells #[.int .i64 (rd y219 t222), .int .i64 0] 26 (0, 0))) := ⟨by (with_reducible repeat (first | refine bN_ ?_ _ | refine bD_ ?_ | refine bA_ ?_ _)); refine bP_ (cs := #[.int .i64 (rd y219 t222), .int .i64 0]) ?_ 1 _ rfl; (with_reducible repeat (first | refine bN_ ?_ _ | refine bD_ ?_ | refine bA_ ?_ _)); refine bP_ (cs := #[.int .i64 0, .int .i64 0]) ?_ 0 _ rfl; (with_reducible repeat (first | refine bN_ ?_ _ | refine bD_ ?_ | refine bA_ ?_ _)); exact BK225.out⟩
      have n3_ : Az_ (I81_ w0 ((w86.setCell ⟨gb225, 0, none⟩ (.int .i64 (rd y219 t222))).setCell ⟨gb225, 1, none⟩ (.int .i64 0)) g s0_0 t223) := ⟨by repeat (first | (with_reducible first | exact HI0.out | apply I81_.alloc | apply I81_.drewN | apply I81_.drew | apply I81_.set_1 | refine I81_.far ?_ NB0_216.out _ | refine I81_.far ?_ NB0_225.out _) | exact HI0.out)⟩
      have n4_ : Az_ (KeepBut w ((w86.setCell ⟨gb225, 0, none⟩ (.int .i64 (rd y219 t222))).setCell ⟨gb225, 1, none⟩ (.int .i64 0)) g none) := ⟨by repeat (first | (with_reducible first | exact HK.out | apply KeepBut.set_ | apply kN_ | apply kD_ | apply kA_ | refine kF_ ?_ GW216.out _ | refine kF_ ?_ GW225.out _) | exact HK.out)⟩
      have n5_ : Az_ (Below w0.heap.size w0 ((w86.setCell ⟨gb225, 0, none⟩ (.int .i64 (rd y219 t222))).setCell ⟨gb225, 1, none⟩ (.int .i64 0))) := ⟨by repeat (first | (with_reducible first | exact HB.out | apply eA_ | apply pN_ | apply eD_ | refine eS_ ?_ (I81_.ge HI0.out) | refine eS_ ?_ GE216.out | refine eS_ ?_ GE225.out) | exact HB.out)⟩
      (try clear HO221)
      (try clear BK216)
      (try clear BK225)
      (try clear HI0)
      (try clear HK)
      (try clear HB)
      generalize ((w86.setCell ⟨gb225, 0, none⟩ (.int .i64 (rd y219 t222))).setCell ⟨gb225, 1, none⟩ (.int .i64 0)) = w90 at n0_ n1_ n2_ n3_ n4_ n5_ ⊢
      have HO221 := n0_
      have BK216 := n1_
      have BK225 := n2_
      have HI0 := n3_
      have HK := n4_
      have HB := n5_
      clear n0_ n1_ n2_ n3_ n4_ n5_
      have n0_ := Az_.mk (Kd.R_drew HO221.out)
      have n1_ := Az_.mk (bD_ BK216.out)
      have n2_ := Az_.mk (bD_ BK225.out)
      have n3_ := Az_.mk (I81_.drew HI0.out)
      have n4_ := Az_.mk (kD_ HK.out)
      have n5_ := Az_.mk (eD_ HB.out)
      clear HO221
      clear BK216
      clear BK225
      clear HI0
      clear HK
      clear HB
      have HO221 := n0_
      have BK216 := n1_
      have BK225 := n2_
      have HI0 := n3_
      have HK := n4_
      have HB := n5_
      clear n0_ n1_ n2_ n3_ n4_ n5_
      refine start_ (n := 10) (S := fun w' => w'.cell? ⟨gb225, 0, none⟩ = some (.int .i64 (rd y219 t222)) ∧ w'.cell? ⟨gb225, 1, none⟩ = some (.int .i64 0)) (ds := [9]) #[false, false, false, false, false, false, false, false, false, false] (by kernel_rfl) rfl rfl ⟨(bC_ BK225.out 0).trans rfl, (bC_ BK225.out 1).trans rfl⟩ (fun hHeld => ?_); refine with_tabW spec_l20Win.tab2 spec_l20Win.bits2 (fun HT_ HW_ => ?_)
      generalize w90.drew = w91 at HO221 BK216 BK225 HI0 HK HB hHeld ⊢
      refine pure_ (i := 0) (N := some 14) (v := ?_) (a' := ?_) #[true, false, false, false, false, false, false, false, false, false] rfl rfl (any_of HT_.out (by kernel_rfl)) (fun _ _ _ h => h) (Or.inl ⟨by rfl, ?_⟩) ?_ ?_
      rotate_left
      ·intro w'
       go_simp
       with_reducible rfl
      rotate_left
      ·simp only [Act.put, List.setIfInBounds_toArray, List.set_cons_zero, List.set_cons_succ, i64_w, i32_w]
       rfl
      refine pure_ (i := 3) (N := some 17) (v := ?_) (a' := ?_) #[true, false, false, true, false, false, false, false, false, false] rfl rfl (any_of HT_.out (by kernel_rfl)) (fun _ _ _ h => h) (Or.inl ⟨by rfl, ?_⟩) ?_ ?_
      rotate_left
      ·intro w'
       go_simp
       with_reducible rfl
      rotate_left
      ·simp only [Act.put, List.setIfInBounds_toArray, List.set_cons_zero, List.set_cons_succ, i64_w, i32_w]
       rfl
      refine take_ (i := 1) (N := some 15) (v := ?_) (a' := ?_) #[true, true, false, true, false, false, false, false, false, false] rfl rfl (take_ofW HT_.out HW_.out (by kernel_rfl)) (fun _ _ _ h => h) (Or.inl ⟨by rfl, ?_⟩) hHeld ?_ ?_
      rotate_left
      ·rintro w' ⟨s0, s1⟩
       go_simp
       with_reducible rfl
      rotate_left
      ·simp only [Act.put, List.setIfInBounds_toArray, List.set_cons_zero, List.set_cons_succ, i64_w, i32_w]
       rfl
      refine join_ (σ := Value × Addr) 5 #[true, true, true, true, true, false, false, false, false, false] (fun s_ => [(16, s_.1), (18, .int .i64 t229)]) (fun s_ w' => (w'.cell? ⟨gb225, 0, none⟩ = some (.int .i64 (rd y219 t222)) ∧ w'.cell? ⟨gb225, 1, none⟩ = some (.int .i64 0)) ∧ (Kd.R (Kd.int .i64) 3 w' w.heap.size (fun k_ => some k_ ≠ (s_.1 : Value).ownBlock) (.slice (some ad224) y219.length co85) y219) ∧ (Kd.R (Kd.int .i64) 3 w' w.heap.size (fun k_ => some k_ ≠ (.slice (some ad224) y219.length co85 : Value).ownBlock) s_.1 y226) ∧ (∃ c_, (s_.1 : Value) = .slice (some s_.2) y226.length c_) ∧ (w'.heap[gb216]? = some (.cells #[.int .i64 0, .int .i64 0] 26 (0, 0))) ∧ (w'.heap[gb225]? = some (.cells #[.int .i64 (rd y219 t222), .int .i64 0] 26 (0, 0))) ∧ (I81_ w0 w' g s0_0 t230) ∧ (KeepBut w w' g none) ∧ (Below w0.heap.size w0 w')) ?_ ?_
      rotate_left
      ·intro hCont
       refine two_ (i := 2) (j := 4) (Ni := some 16) (Nj := some 18) #[true, true, true, true, false, false, false, false, false, false] #[true, true, false, true, true, false, false, false, false, false] rfl rfl rfl rfl (two_of HT_.out (by kernel_rfl)) (by decide) (by decide) (fun K hK => ?_) (fun K hK => ?_)
       ·skip
        refine Kd.R_lit_step (Kd.int .i64) _ 3 ?hg (N := 16) ?hd (xs := ([1, 5, 10, 20] : List Int)) (inner := [.int .i64 1, .int .i64 5, .int .i64 10, .int .i64 20]) (ok := fun _ => True) (okp := fun _ => True) ?hr ?hp (fun _ hk => hk) trivial (Below.refl _ _) (Nat.le_refl _) (by simp) ?_; (case hd => rfl); (case hg => rfl); (case hr => first | (go_simp; done) | (go_simp; rfl)); (case hp => exact (Reps.one (show Kd.M (Kd.int .i64) _ _ _ 1 [.int .i64 1] from rfl) (Reps.one (show Kd.M (Kd.int .i64) _ _ _ 5 [.int .i64 5] from rfl) (Reps.one (show Kd.M (Kd.int .i64) _ _ _ 10 [.int .i64 10] from rfl) (Reps.one (show Kd.M (Kd.int .i64) _ _ _ 20 [.int .i64 20] from rfl) (Reps.none _ _))))))
        intro v227 w92 ho93 hb hg_ hnew_
        clear hg_ hnew_
        (first | rw [← Ny226.out] at ho93 | (simp only [Int.reduceToNat] at ho93; rw [← Ny226.out] at ho93))
        have n0_ := Az_.mk (Kd.R_elder' (by (with_reducible repeat (first | apply Kd.R_alloc | apply Kd.R_drewN | apply Kd.R_drew)); exact HO221.out) (Kd.R_base ho93) hb)
        have n1_ := Az_.mk (Kd.R_lower (Kd.R_new' ho93 (Kd.R_lt (by (with_reducible repeat (first | apply Kd.R_alloc | apply Kd.R_drewN | apply Kd.R_drew)); exact HO221.out))) (keep_size (w := w) (g := g) (row := none) (by repeat (first | (with_reducible first | exact HK.out | apply KeepBut.set_ | apply kN_ | apply kD_ | apply kA_ | refine kF_ ?_ GW216.out _ | refine kF_ ?_ GW225.out _) | exact HK.out))))
        have n2_ := Az_.mk (I81_.below (by repeat (first | (with_reducible first | exact HI0.out | apply I81_.alloc | apply I81_.drewN | apply I81_.drew | apply I81_.set_1 | refine I81_.far ?_ NB0_216.out _ | refine I81_.far ?_ NB0_225.out _) | exact HI0.out)) hb)
        have n3_ := Az_.mk (bB_ (g := gb216) (o := .cells #[.int .i64 0, .int .i64 0] 26 (0, 0)) (by (with_reducible repeat (first | refine bN_ ?_ _ | refine bD_ ?_ | refine bA_ ?_ _)); exact BK216.out) hb)
        have n4_ := Az_.mk (bB_ (g := gb225) (o := .cells #[.int .i64 (rd y219 t222), .int .i64 0] 26 (0, 0)) (by (with_reducible repeat (first | refine bN_ ?_ _ | refine bD_ ?_ | refine bA_ ?_ _)); exact BK225.out) hb)
        have n5_ := Az_.mk (KeepBut.trans (by repeat (first | (with_reducible first | exact HK.out | apply KeepBut.set_ | apply kN_ | apply kD_ | apply kA_ | refine kF_ ?_ GW216.out _ | refine kF_ ?_ GW225.out _) | exact HK.out)) (KeepBut.of_below hb g none) (.inl rfl))
        have n6_ := Az_.mk (below_step (by repeat (first | (with_reducible first | exact HB.out | apply eA_ | apply pN_ | apply eD_ | refine eS_ ?_ (I81_.ge HI0.out) | refine eS_ ?_ GE216.out | refine eS_ ?_ GE225.out) | exact HB.out)) hb)
        clear HO221
        clear HI0
        clear BK216
        clear BK225
        clear HK
        clear HB
        have HO221 := n0_
        have HO228 := n1_
        have HI0 := n2_
        have BK216 := n3_
        have BK225 := n4_
        have HK := n5_
        have HB := n6_
        clear n0_ n1_ n2_ n3_ n4_ n5_ n6_
        clear hb ho93
        obtain ⟨Ao94, co94, eo94⟩ := Kd.R_slice HO228.out
        subst eo94
        obtain ⟨ado94, fo94, _⟩ := Kd.at_int (Kd.R_reads' HO228.out).2.2 0 (by decide) (by rw [Ny226.out]; simp)
        cases fo94
        refine hK.out _ _ ⟨(bC_ BK225.out 0).trans rfl, (bC_ BK225.out 1).trans rfl⟩ (fun hHeld => ?_)
        clear hK K
        refine norm_ (a' := ?_) ?_ ?_
        rotate_left
        ·show Act.put _ (some 16) _ = _
         simp only [Act.put, List.setIfInBounds_toArray, List.set_cons_zero, List.set_cons_succ, i64_w, i32_w]
         rfl
        refine one_ (i := 4) (N := some 18) #[true, true, true, true, true, false, false, false, false, false] rfl rfl (one_of HT_.out (by kernel_rfl)) (by decide) (fun K hK => ?_)
        refine goes_ Try.func53 (by kernel_rfl) rfl #[.pointer (some ⟨g, 0, none⟩), .int .i64 4] (by rfl) rfl rfl (by (try simp only [List.map_toArray, List.map_cons, List.map_nil]); first | done | rfl | (simp only [List.length_drop, List.length_take]; rfl)) ?_
        with_reducible refine (spec_l20Rd_pick.calls k g s0_0 t223 4 t229 t230 w0 _ ?side1 ?side2 A7.out).mono ?_
        (case side1 => repeat (first | (with_reducible first | exact HI0.out | apply I81_.alloc | apply I81_.drewN | apply I81_.drew | apply I81_.set_1 | refine I81_.far ?_ NB0_216.out _ | refine I81_.far ?_ NB0_225.out _) | exact HI0.out))
        (case side2 => repeat (first | (with_reducible first | exact HB.out | apply eA_ | apply pN_ | apply eD_ | refine eS_ ?_ (I81_.ge HI0.out) | refine eS_ ?_ GE216.out | refine eS_ ?_ GE225.out) | exact HB.out))
        rintro e w95 ⟨rfl, hi, hb, hk⟩
        refine ⟨_, rfl, ?_⟩
        have n0_ := Az_.mk (KeepBut.blk hk (g' := gb216) (o := .cells #[.int .i64 0, .int .i64 0] 26 (0, 0)) (by (with_reducible repeat (first | refine bN_ ?_ _ | refine bD_ ?_ | refine bA_ ?_ _)); exact BK216.out) NB216_0.out (by simp))
        have n1_ := Az_.mk (Kd.R_mono (Kd.R_keep (I81_.apart (show I81_ w0 _ g s0_0 t223 from by repeat (first | (with_reducible first | exact HI0.out | apply I81_.alloc | apply I81_.drewN | apply I81_.drew | apply I81_.set_1 | refine I81_.far ?_ NB0_216.out _ | refine I81_.far ?_ NB0_225.out _) | exact HI0.out)) (by (with_reducible repeat (first | apply Kd.R_alloc | apply Kd.R_drewN | apply Kd.R_drew)); exact HO221.out) (by decide)) hk (fun _ h => h.2)) (fun _ h => h.1))
        have n2_ := Az_.mk (KeepBut.blk hk (g' := gb225) (o := .cells #[.int .i64 (rd y219 t222), .int .i64 0] 26 (0, 0)) (by (with_reducible repeat (first | refine bN_ ?_ _ | refine bD_ ?_ | refine bA_ ?_ _)); exact BK225.out) NB225_0.out (by simp))
        have n3_ := Az_.mk (Kd.R_mono (Kd.R_keep (I81_.apart (show I81_ w0 _ g s0_0 t223 from by repeat (first | (with_reducible first | exact HI0.out | apply I81_.alloc | apply I81_.drewN | apply I81_.drew | apply I81_.set_1 | refine I81_.far ?_ NB0_216.out _ | refine I81_.far ?_ NB0_225.out _) | exact HI0.out)) (by (with_reducible repeat (first | apply Kd.R_alloc | apply Kd.R_drewN | apply Kd.R_drew)); exact HO228.out) (by decide)) hk (fun _ h => h.2)) (fun _ h => h.1))
        have n4_ := Az_.mk (KeepBut.trans (by repeat (first | (with_reducible first | exact HK.out | apply KeepBut.set_ | apply kN_ | apply kD_ | apply kA_ | refine kF_ ?_ GW216.out _ | refine kF_ ?_ GW225.out _) | exact HK.out)) hk (.inl rfl))
        have n5_ := Az_.mk (hb)
        have n6_ := Az_.mk (hi)
        clear BK216
        clear HO221
        clear BK225
        clear HO228
        clear HK
        clear HB
        clear HI0
        have BK216 := n0_
        have HO221 := n1_
        have BK225 := n2_
        have HO228 := n3_
        have HK := n4_
        have HB := n5_
        have HI0 := n6_
        clear n0_ n1_ n2_ n3_ n4_ n5_ n6_
        (try clear hb)
        (try clear hb2)
        (try clear hk)
        (try clear hi)
        refine hK.out _ _ ⟨(bC_ BK225.out 0).trans rfl, (bC_ BK225.out 1).trans rfl⟩ (fun hHeld => ?_)
        clear hK K
        refine norm_ (a' := ?_) ?_ ?_
        rotate_left
        ·show Act.put _ (some 18) _ = _
         simp only [Act.put, List.setIfInBounds_toArray, List.set_cons_zero, List.set_cons_succ, i64_w, i32_w]
         rfl
        exact norm_ (by simp only [putAll, Act.put, List.setIfInBounds_toArray, List.set_cons_zero, List.set_cons_succ]) (hCont (.slice (some ado94) y226.length co94, ado94) _ ⟨hHeld, (by (with_reducible repeat (first | apply Kd.R_alloc | apply Kd.R_drewN | apply Kd.R_drew)); exact Kd.R_mono HO221.out (fun _ hk => hk.2)), (by (with_reducible repeat (first | apply Kd.R_alloc | apply Kd.R_drewN | apply Kd.R_drew)); exact Kd.R_mono HO228.out (fun _ hk => hk.2)), ⟨_, rfl⟩, (by (with_reducible repeat (first | refine bN_ ?_ _ | refine bD_ ?_ | refine bA_ ?_ _)); exact BK216.out), (by (with_reducible repeat (first | refine bN_ ?_ _ | refine bD_ ?_ | refine bA_ ?_ _)); exact BK225.out), (by repeat (first | (with_reducible first | exact HI0.out | apply I81_.alloc | apply I81_.drewN | apply I81_.drew | apply I81_.set_1 | refine I81_.far ?_ NB0_216.out _ | refine I81_.far ?_ NB0_225.out _) | exact HI0.out)), (by repeat (first | (with_reducible first | exact HK.out | apply KeepBut.set_ | apply kN_ | apply kD_ | apply kA_ | refine kF_ ?_ GW216.out _ | refine kF_ ?_ GW225.out _) | exact HK.out)), (by repeat (first | (with_reducible first | exact HB.out | apply eA_ | apply pN_ | apply eD_ | refine eS_ ?_ (I81_.ge HI0.out) | refine eS_ ?_ GE216.out | refine eS_ ?_ GE225.out) | exact HB.out))⟩)
       ·skip
        refine goes_ Try.func53 (by kernel_rfl) rfl #[.pointer (some ⟨g, 0, none⟩), .int .i64 4] (by rfl) rfl rfl (by (try simp only [List.map_toArray, List.map_cons, List.map_nil]); first | done | rfl | (simp only [List.length_drop, List.length_take]; rfl)) ?_
        with_reducible refine (spec_l20Rd_pick.calls k g s0_0 t223 4 t229 t230 w0 _ ?side1 ?side2 A7.out).mono ?_
        (case side1 => repeat (first | (with_reducible first | exact HI0.out | apply I81_.alloc | apply I81_.drewN | apply I81_.drew | apply I81_.set_1 | refine I81_.far ?_ NB0_216.out _ | refine I81_.far ?_ NB0_225.out _) | exact HI0.out))
        (case side2 => repeat (first | (with_reducible first | exact HB.out | apply eA_ | apply pN_ | apply eD_ | refine eS_ ?_ (I81_.ge HI0.out) | refine eS_ ?_ GE216.out | refine eS_ ?_ GE225.out) | exact HB.out))
        rintro e w92 ⟨rfl, hi, hb, hk⟩
        refine ⟨_, rfl, ?_⟩
        have n0_ := Az_.mk (KeepBut.blk hk (g' := gb216) (o := .cells #[.int .i64 0, .int .i64 0] 26 (0, 0)) (by (with_reducible repeat (first | refine bN_ ?_ _ | refine bD_ ?_ | refine bA_ ?_ _)); exact BK216.out) NB216_0.out (by simp))
        have n1_ := Az_.mk (Kd.R_mono (Kd.R_keep (I81_.apart (show I81_ w0 _ g s0_0 t223 from by repeat (first | (with_reducible first | exact HI0.out | apply I81_.alloc | apply I81_.drewN | apply I81_.drew | apply I81_.set_1 | refine I81_.far ?_ NB0_216.out _ | refine I81_.far ?_ NB0_225.out _) | exact HI0.out)) (by (with_reducible repeat (first | apply Kd.R_alloc | apply Kd.R_drewN | apply Kd.R_drew)); exact HO221.out) (by decide)) hk (fun _ h => h.2)) (fun _ h => h.1))
        have n2_ := Az_.mk (KeepBut.blk hk (g' := gb225) (o := .cells #[.int .i64 (rd y219 t222), .int .i64 0] 26 (0, 0)) (by (with_reducible repeat (first | refine bN_ ?_ _ | refine bD_ ?_ | refine bA_ ?_ _)); exact BK225.out) NB225_0.out (by simp))
        have n3_ := Az_.mk (KeepBut.trans (by repeat (first | (with_reducible first | exact HK.out | apply KeepBut.set_ | apply kN_ | apply kD_ | apply kA_ | refine kF_ ?_ GW216.out _ | refine kF_ ?_ GW225.out _) | exact HK.out)) hk (.inl rfl))
        have n4_ := Az_.mk (hb)
        have n5_ := Az_.mk (hi)
        clear BK216
        clear HO221
        clear BK225
        clear HK
        clear HB
        clear HI0
        have BK216 := n0_
        have HO221 := n1_
        have BK225 := n2_
        have HK := n3_
        have HB := n4_
        have HI0 := n5_
        clear n0_ n1_ n2_ n3_ n4_ n5_
        (try clear hb)
        (try clear hb2)
        (try clear hk)
        (try clear hi)
        refine hK.out _ _ ⟨(bC_ BK225.out 0).trans rfl, (bC_ BK225.out 1).trans rfl⟩ (fun hHeld => ?_)
        clear hK K
        refine norm_ (a' := ?_) ?_ ?_
        rotate_left
        ·show Act.put _ (some 18) _ = _
         simp only [Act.put, List.setIfInBounds_toArray, List.set_cons_zero, List.set_cons_succ, i64_w, i32_w]
         rfl
        refine one_ (i := 2) (N := some 16) #[true, true, true, true, true, false, false, false, false, false] rfl rfl (one_of HT_.out (by kernel_rfl)) (by decide) (fun K hK => ?_)
        refine Kd.R_lit_step (Kd.int .i64) _ 3 ?hg (N := 16) ?hd (xs := ([1, 5, 10, 20] : List Int)) (inner := [.int .i64 1, .int .i64 5, .int .i64 10, .int .i64 20]) (ok := fun _ => True) (okp := fun _ => True) ?hr ?hp (fun _ hk => hk) trivial (Below.refl _ _) (Nat.le_refl _) (by simp) ?_; (case hd => rfl); (case hg => rfl); (case hr => first | (go_simp; done) | (go_simp; rfl)); (case hp => exact (Reps.one (show Kd.M (Kd.int .i64) _ _ _ 1 [.int .i64 1] from rfl) (Reps.one (show Kd.M (Kd.int .i64) _ _ _ 5 [.int .i64 5] from rfl) (Reps.one (show Kd.M (Kd.int .i64) _ _ _ 10 [.int .i64 10] from rfl) (Reps.one (show Kd.M (Kd.int .i64) _ _ _ 20 [.int .i64 20] from rfl) (Reps.none _ _))))))
        intro v227 w93 ho94 hb hg_ hnew_
        clear hg_ hnew_
        (first | rw [← Ny226.out] at ho94 | (simp only [Int.reduceToNat] at ho94; rw [← Ny226.out] at ho94))
        have n0_ := Az_.mk (Kd.R_elder' (by (with_reducible repeat (first | apply Kd.R_alloc | apply Kd.R_drewN | apply Kd.R_drew)); exact HO221.out) (Kd.R_base ho94) hb)
        have n1_ := Az_.mk (Kd.R_lower (Kd.R_new' ho94 (Kd.R_lt (by (with_reducible repeat (first | apply Kd.R_alloc | apply Kd.R_drewN | apply Kd.R_drew)); exact HO221.out))) (keep_size (w := w) (g := g) (row := none) (by repeat (first | (with_reducible first | exact HK.out | apply KeepBut.set_ | apply kN_ | apply kD_ | apply kA_ | refine kF_ ?_ GW216.out _ | refine kF_ ?_ GW225.out _) | exact HK.out))))
        have n2_ := Az_.mk (I81_.below (by repeat (first | (with_reducible first | exact HI0.out | apply I81_.alloc | apply I81_.drewN | apply I81_.drew | apply I81_.set_1 | refine I81_.far ?_ NB0_216.out _ | refine I81_.far ?_ NB0_225.out _) | exact HI0.out)) hb)
        have n3_ := Az_.mk (bB_ (g := gb216) (o := .cells #[.int .i64 0, .int .i64 0] 26 (0, 0)) (by (with_reducible repeat (first | refine bN_ ?_ _ | refine bD_ ?_ | refine bA_ ?_ _)); exact BK216.out) hb)
        have n4_ := Az_.mk (bB_ (g := gb225) (o := .cells #[.int .i64 (rd y219 t222), .int .i64 0] 26 (0, 0)) (by (with_reducible repeat (first | refine bN_ ?_ _ | refine bD_ ?_ | refine bA_ ?_ _)); exact BK225.out) hb)
        have n5_ := Az_.mk (KeepBut.trans (by repeat (first | (with_reducible first | exact HK.out | apply KeepBut.set_ | apply kN_ | apply kD_ | apply kA_ | refine kF_ ?_ GW216.out _ | refine kF_ ?_ GW225.out _) | exact HK.out)) (KeepBut.of_below hb g none) (.inl rfl))
        have n6_ := Az_.mk (below_step (by repeat (first | (with_reducible first | exact HB.out | apply eA_ | apply pN_ | apply eD_ | refine eS_ ?_ (I81_.ge HI0.out) | refine eS_ ?_ GE216.out | refine eS_ ?_ GE225.out) | exact HB.out)) hb)
        clear HO221
        clear HI0
        clear BK216
        clear BK225
        clear HK
        clear HB
        have HO221 := n0_
        have HO228 := n1_
        have HI0 := n2_
        have BK216 := n3_
        have BK225 := n4_
        have HK := n5_
        have HB := n6_
        clear n0_ n1_ n2_ n3_ n4_ n5_ n6_
        clear hb ho94
        obtain ⟨Ao95, co95, eo95⟩ := Kd.R_slice HO228.out
        subst eo95
        obtain ⟨ado95, fo95, _⟩ := Kd.at_int (Kd.R_reads' HO228.out).2.2 0 (by decide) (by rw [Ny226.out]; simp)
        cases fo95
        refine hK.out _ _ ⟨(bC_ BK225.out 0).trans rfl, (bC_ BK225.out 1).trans rfl⟩ (fun hHeld => ?_)
        clear hK K
        refine norm_ (a' := ?_) ?_ ?_
        rotate_left
        ·show Act.put _ (some 16) _ = _
         simp only [Act.put, List.setIfInBounds_toArray, List.set_cons_zero, List.set_cons_succ, i64_w, i32_w]
         rfl
        exact norm_ (by simp only [putAll, Act.put, List.setIfInBounds_toArray, List.set_cons_zero, List.set_cons_succ]) (hCont (.slice (some ado95) y226.length co95, ado95) _ ⟨hHeld, (by (with_reducible repeat (first | apply Kd.R_alloc | apply Kd.R_drewN | apply Kd.R_drew)); exact Kd.R_mono HO221.out (fun _ hk => hk.2)), (by (with_reducible repeat (first | apply Kd.R_alloc | apply Kd.R_drewN | apply Kd.R_drew)); exact Kd.R_mono HO228.out (fun _ hk => hk.2)), ⟨_, rfl⟩, (by (with_reducible repeat (first | refine bN_ ?_ _ | refine bD_ ?_ | refine bA_ ?_ _)); exact BK216.out), (by (with_reducible repeat (first | refine bN_ ?_ _ | refine bD_ ?_ | refine bA_ ?_ _)); exact BK225.out), (by repeat (first | (with_reducible first | exact HI0.out | apply I81_.alloc | apply I81_.drewN | apply I81_.drew | apply I81_.set_1 | refine I81_.far ?_ NB0_216.out _ | refine I81_.far ?_ NB0_225.out _) | exact HI0.out)), (by repeat (first | (with_reducible first | exact HK.out | apply KeepBut.set_ | apply kN_ | apply kD_ | apply kA_ | refine kF_ ?_ GW216.out _ | refine kF_ ?_ GW225.out _) | exact HK.out)), (by repeat (first | (with_reducible first | exact HB.out | apply eA_ | apply pN_ | apply eD_ | refine eS_ ?_ (I81_.ge HI0.out) | refine eS_ ?_ GE216.out | refine eS_ ?_ GE225.out) | exact HB.out))⟩)
      rintro ⟨v227, adz_v227⟩ w96 ⟨hS_, h0_, h1_, h2_, h3_, h4_, h5_, h6_, h7_⟩
      have n0_ : Az_ (Kd.R (Kd.int .i64) 3 w96 w.heap.size (fun k_ => some k_ ≠ (v227 : Value).ownBlock) (.slice (some ad224) y219.length co85) y219) := ⟨h0_⟩
      have n1_ : Az_ (Kd.R (Kd.int .i64) 3 w96 w.heap.size (fun k_ => some k_ ≠ (.slice (some ad224) y219.length co85 : Value).ownBlock) v227 y226) := ⟨h1_⟩
      have n2_ : Az_ (∃ c_, (v227 : Value) = .slice (some adz_v227) y226.length c_) := ⟨h2_⟩
      have n3_ : Az_ (w96.heap[gb216]? = some (.cells #[.int .i64 0, .int .i64 0] 26 (0, 0))) := ⟨h3_⟩
      have n4_ : Az_ (w96.heap[gb225]? = some (.cells #[.int .i64 (rd y219 t222), .int .i64 0] 26 (0, 0))) := ⟨h4_⟩
      have n5_ : Az_ (I81_ w0 w96 g s0_0 t230) := ⟨h5_⟩
      have n6_ : Az_ (KeepBut w w96 g none) := ⟨h6_⟩
      have n7_ : Az_ (Below w0.heap.size w0 w96) := ⟨h7_⟩
      clear HO221
      clear BK216
      clear BK225
      clear HI0
      clear HK
      clear HB
      clear h0_ h1_ h2_ h3_ h4_ h5_ h6_ h7_
      have HO221 := n0_
      have HO228 := n1_
      have HA_HO228 := n2_
      have BK216 := n3_
      have BK225 := n4_
      have HI0 := n5_
      have HK := n6_
      have HB := n7_
      clear n0_ n1_ n2_ n3_ n4_ n5_ n6_ n7_
      have hHeld : w96.cell? ⟨gb225, 0, none⟩ = some (.int .i64 (rd y219 t222)) ∧ w96.cell? ⟨gb225, 1, none⟩ = some (.int .i64 0) := hS_
      obtain ⟨co97, eo97⟩ := HA_HO228.out
      clear HA_HO228
      subst eo97
      refine norm_ (a' := ?_) ?_ ?_
      rotate_left
      ·simp only [putAll, Act.put, List.setIfInBounds_toArray, List.set_cons_zero, List.set_cons_succ]
       rfl
      refine pure_ (i := 5) (N := some 19) (v := ?_) (a' := ?_) #[true, true, true, true, true, true, false, false, false, false] rfl rfl (any_of HT_.out (by kernel_rfl)) (fun _ _ _ h => h) (Or.inl ⟨by rfl, ?_⟩) ?_ ?_
      rotate_left
      ·intro w'
       go_simp
       with_reducible rfl
      rotate_left
      ·simp only [Act.put, List.setIfInBounds_toArray, List.set_cons_zero, List.set_cons_succ, i64_w, i32_w]
       rfl
      refine one_ (i := 6) (N := some 20) #[true, true, true, true, true, true, true, false, false, false] rfl rfl (one_of HT_.out (by kernel_rfl)) (by decide) (fun K hK => ?_)
      (have p231 : 0 ≤ (t229 : Int) := of_decide_eq_true (by first | (with_reducible assumption) | assumption); have q231 : t229 < (y226.length : Int) := of_decide_eq_true (by first | (with_reducible assumption) | assumption); obtain ⟨ad231, e231, hx231_0⟩ := Kd.at_int (Kd.R_reads' HO228.out).2.2 t229 p231 q231; obtain rfl : adz_v227 = ad231 := (by injection e231))
      refine value_ (w1 := ?_) (v := ?_) (by rfl) rfl ?_ ?_
      rotate_left 2
      ·go_simp
       constructor
       ·rfl
       ·rfl
      clear hx231_0
      refine hK.out _ _ ⟨(bC_ BK225.out 0).trans rfl, (bC_ BK225.out 1).trans rfl⟩ (fun hHeld => ?_)
      clear hK K
      refine norm_ (a' := ?_) ?_ ?_
      rotate_left
      ·show Act.put _ (some 20) _ = _
       simp only [Act.put, List.setIfInBounds_toArray, List.set_cons_zero, List.set_cons_succ, i64_w, i32_w]
       rfl
      refine pure_ (i := 7) (N := some 21) (v := ?_) (a' := ?_) #[true, true, true, true, true, true, true, true, false, false] rfl rfl (any_of HT_.out (by kernel_rfl)) (fun _ _ _ h => h) (Or.inl ⟨by rfl, ?_⟩) ?_ ?_
      rotate_left
      ·intro w'
       go_simp
       with_reducible rfl
      rotate_left
      ·simp only [Act.put, List.setIfInBounds_toArray, List.set_cons_zero, List.set_cons_succ, i64_w, i32_w]
       rfl
      refine pure_ (i := 8) (N := some 22) (v := ?_) (a' := ?_) #[true, true, true, true, true, true, true, true, true, false] rfl rfl (any_of HT_.out (by kernel_rfl)) (fun _ _ _ h => h) (Or.inl ⟨by rfl, ?_⟩) ?_ ?_
      rotate_left
      ·intro w'
       go_simp
       with_reducible rfl
      rotate_left
      ·simp only [Act.put, List.setIfInBounds_toArray, List.set_cons_zero, List.set_cons_succ, i64_w, i32_w]
       rfl
      refine last_ (i := 9) (N := none) #[true, true, true, true, true, true, true, true, true, true] rfl rfl (one_of HT_.out (by kernel_rfl)) (by decide) (fun K hK => ?_)
      have hs98 : w96.cell? ⟨gb225, 1, none⟩ = some (.int .i64 0) := (bC_ BK225.out 1).trans rfl
      have hfs98 := bF_ BK225.out 1
      have hns98_0 := NB216_225.out
      have hms98_0 := NB225_216.out
      refine skip_ (w1 := ?_) (by rfl) rfl ?_ ?_
      rotate_left
      ·go_simp
       rfl
      refine hK.out _ _ ?_
      clear hK K
      refine done_ (done_of HT_.out (by kernel_rfl)) ?_
      try go_wp2_with (first | ((with_reducible refine gate_callee (f := 53) rfl ?_); refine goesL_ (some 25) rfl rfl Try.func53 (by kernel_rfl) rfl #[.pointer (some ⟨g, 0, none⟩), .int .i64 a1] rfl (by (try simp only [List.map_toArray, List.map_cons, List.map_nil]); first | done | rfl | (simp only [List.length_drop, List.length_take]; rfl)) ?_; (with_reducible refine (spec_l20Rd_pick.calls k g s0_0 t230 a1 t232 t233 w0 _ ?side1 ?side2 A10.out).mono ?_); (case side1 => repeat (first | (with_reducible first | exact HI0.out | apply I81_.alloc | apply I81_.drewN | apply I81_.drew | apply I81_.set_1 | refine I81_.far ?_ NB0_216.out _ | refine I81_.far ?_ NB0_225.out _) | exact HI0.out)); (case side2 => repeat (first | (with_reducible first | exact HB.out | apply eA_ | apply pN_ | apply eD_ | refine eS_ ?_ (I81_.ge HI0.out) | refine eS_ ?_ GE216.out | refine eS_ ?_ GE225.out) | exact HB.out)); rintro e w99 ⟨rfl, hi, hb, hk⟩; refine ⟨_, rfl, ?_⟩; have n0_ := Az_.mk (KeepBut.blk hk (g' := gb216) (o := .cells #[.int .i64 0, .int .i64 0] 26 (0, 0)) (by (with_reducible repeat (first | refine bN_ ?_ _ | refine bD_ ?_ | refine bA_ ?_ _)); refine bR_ ?_ NB216_225.out _; (with_reducible repeat (first | refine bN_ ?_ _ | refine bD_ ?_ | refine bA_ ?_ _)); exact BK216.out) NB216_0.out (by simp)); have n1_ := Az_.mk (Kd.R_mono (Kd.R_keep (I81_.apart (show I81_ w0 _ g s0_0 t230 from by repeat (first | (with_reducible first | exact HI0.out | apply I81_.alloc | apply I81_.drewN | apply I81_.drew | apply I81_.set_1 | refine I81_.far ?_ NB0_216.out _ | refine I81_.far ?_ NB0_225.out _) | exact HI0.out)) (by (with_reducible repeat (first | apply Kd.R_alloc | apply Kd.R_drewN | apply Kd.R_drew)); exact (Kd.R_mono (Kd.R_far (p := ⟨gb225, 1, none⟩) (Kd.R_types HO221.out BK225.out (by decide)) (fun _ hk => hk.2) (.int .i64 (wrap64 ((rd y219 t222) + (rd y226 t229))))) (fun _ h_ => h_.1))) (by decide)) hk (fun _ h => h.2)) (fun _ h => h.1)); have n2_ := Az_.mk (KeepBut.blk hk (g' := gb225) (o := .cells #[.int .i64 (rd y219 t222), .int .i64 (wrap64 ((rd y219 t222) + (rd y226 t229)))] 26 (0, 0)) (by (with_reducible repeat (first | refine bN_ ?_ _ | refine bD_ ?_ | refine bA_ ?_ _)); refine bP_ (cs := #[.int .i64 (rd y219 t222), .int .i64 0]) ?_ 1 _ rfl; (with_reducible repeat (first | refine bN_ ?_ _ | refine bD_ ?_ | refine bA_ ?_ _)); exact BK225.out) NB225_0.out (by simp)); have n3_ := Az_.mk (Kd.R_mono (Kd.R_keep (I81_.apart (show I81_ w0 _ g s0_0 t230 from by repeat (first | (with_reducible first | exact HI0.out | apply I81_.alloc | apply I81_.drewN | apply I81_.drew | apply I81_.set_1 | refine I81_.far ?_ NB0_216.out _ | refine I81_.far ?_ NB0_225.out _) | exact HI0.out)) (by (with_reducible repeat (first | apply Kd.R_alloc | apply Kd.R_drewN | apply Kd.R_drew)); exact (Kd.R_mono (Kd.R_far (p := ⟨gb225, 1, none⟩) (Kd.R_types HO228.out BK225.out (by decide)) (fun _ hk => hk.2) (.int .i64 (wrap64 ((rd y219 t222) + (rd y226 t229))))) (fun _ h_ => h_.1))) (by decide)) hk (fun _ h => h.2)) (fun _ h => h.1)); have n4_ := Az_.mk (KeepBut.trans (by repeat (first | (with_reducible first | exact HK.out | apply KeepBut.set_ | apply kN_ | apply kD_ | apply kA_ | refine kF_ ?_ GW216.out _ | refine kF_ ?_ GW225.out _) | exact HK.out)) hk (.inl rfl)); have n5_ := Az_.mk (hb); have n6_ := Az_.mk (hi); clear BK216; clear HO221; clear BK225; clear HO228; clear HK; clear HB; clear HI0; have BK216 := n0_; have HO221 := n1_; have BK225 := n2_; have HO228 := n3_; have HK := n4_; have HB := n5_; have HI0 := n6_; clear n0_ n1_ n2_ n3_ n4_ n5_ n6_; (try clear hb); (try clear hb2); (try clear hk); (try clear hi); have hcz100_0 : w99.cell? ⟨gb225, 0, none⟩ = some (.int .i64 (rd y219 t222)) := (bC_ BK225.out 0).trans rfl; have hcz100_1 : w99.cell? ⟨gb225, 1, none⟩ = some (.int .i64 (wrap64 ((rd y219 t222) + (rd y226 t229)))) := (bC_ BK225.out 1).trans rfl; have hfz100_0 := bF_ BK225.out 0; have hfz100_1 := bF_ BK225.out 1; have hnb101 := NB216_0.out; have hnc101 := NB0_216.out; have hcz102_0 : w99.cell? ⟨gb216, 0, none⟩ = some (.int .i64 0) := (bC_ BK216.out 0).trans rfl; have hcz102_1 : w99.cell? ⟨gb216, 1, none⟩ = some (.int .i64 0) := (bC_ BK216.out 1).trans rfl; have hfz102_0 := bF_ BK216.out 0; have hfz102_1 := bF_ BK216.out 1))
      refine bodyPost_ret (results_cell_row rfl _ _ gb216 26 #[.int .i64 (rd y219 t222), .int .i64 (wrap64 ((rd y219 t222) + (rd y226 t229)))] (0, 0) _ rfl (by (with_reducible repeat (first | refine bN_ ?_ _ | refine bD_ ?_ | refine bA_ ?_ _)); refine bP_ (cs := #[.int .i64 (rd y219 t222), .int .i64 0]) ?_ 1 _ rfl; (with_reducible repeat (first | refine bN_ ?_ _ | refine bD_ ?_ | refine bA_ ?_ _)); refine bP_ (cs := #[.int .i64 0, .int .i64 0]) ?_ 0 _ rfl; (with_reducible repeat (first | refine bN_ ?_ _ | refine bD_ ?_ | refine bA_ ?_ _)); exact BK216.out) Try.underlying26 rfl (by kernel_rfl)) rfl ?_
      exact ⟨by first | rfl | (simp [errW_none, errW_some] <;> rfl) | (simp [*, errW_none, errW_some] <;> rfl), by repeat (first | (with_reducible first | exact HI0.out | apply I81_.alloc | apply I81_.drewN | apply I81_.drew | apply I81_.set_1 | refine I81_.far ?_ NB0_216.out _ | refine I81_.far ?_ NB0_225.out _) | exact HI0.out), by repeat (first | (with_reducible first | exact HB.out | apply eA_ | apply pN_ | apply eD_ | refine eS_ ?_ (I81_.ge HI0.out) | refine eS_ ?_ GE216.out | refine eS_ ?_ GE225.out) | exact HB.out), by repeat (first | (with_reducible first | exact HK.out | apply KeepBut.set_ | apply kN_ | apply kD_ | apply kA_ | refine kF_ ?_ GW216.out _ | refine kF_ ?_ GW225.out _) | exact HK.out)⟩
    ·rw [if_neg c9] at H
     exact absurd H (by simp)
   ·rw [if_neg c8] at H
    exact absurd H (by simp)
  ·rw [if_neg c6] at H
   exact absurd H (by simp)
 ·rw [if_neg c5] at H
  exact absurd H (by simp)

end Go.Proofs.Ytjclmjmbhhlbcaa.PFnTabOut
-- thin
