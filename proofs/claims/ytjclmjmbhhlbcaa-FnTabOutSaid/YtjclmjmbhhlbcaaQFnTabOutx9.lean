/- Functions of the program as Lean functions, with their contracts, written by a program of mine over the kit's printer and in part by hand. No condition of its own. -/
import Derived.Test.YtjclmjmbhhlbcaaQFnTabOutx0
import Derived.Test.YtjclmjmbhhlbcaaQFnTabOutx4
import Derived.Test.YtjclmjmbhhlbcaaQFnTabOutx7
import Derived.Test.YtjclmjmbhhlbcaaQFnTabOutx8
namespace Go.Proofs.Ytjclmjmbhhlbcaa.PFnTabOut
open Go.RowKit Go.Proofs.YtjclmjmbhhlbcaaW.PrintWords Go.Proofs.YtjclmjmbhhlbcaaW.PrintLast Go.Proofs.YtjclmjmbhhlbcaaW.PrintMore
attribute [local go_sem] max2_int min2_int max_two min_two max_three min_three max_four min_four   -- for this text's walks alone
set_option linter.unusedVariables false
set_option linter.unusedSimpArgs false

/-! ### spec_l20Pane: function 65 -/
mutual
def spec_l20Pane.j0 : Nat → Int → List Int → Int → Int → Int → Int → Int → Int → Int → Int → Int → Int → Option (Int × Int × Int × Int × Int × Int × Int × Int × Int × Int)
 | 0, _, _, _, _, _, _, _, _, _, _, _, _ => none
 | k + 1, x1, x1000, x1001, x269000, x269001, x269002, x269003, x269004, x269005, x269006, x269007, x269008 => (spec_l20Rd_pick.f k x1000 x1001 5).bind fun bt273 => (if bt273.1 = 0 then ((spec_l20Rd_pick.f k x1000 bt273.2 3).bind fun bt275 => (spec_l20Pane.j1 k x1 x1000 bt275.2 x269000 x269001 x269002 (wrap64 (1 + bt275.1)) 3 0 0 0 0)) else (spec_l20Pane.j1 k x1 x1000 bt273.2 x269000 x269001 x269002 x269003 x269004 x269005 x269006 x269007 x269008))
def spec_l20Pane.j1 : Nat → Int → List Int → Int → Int → Int → Int → Int → Int → Int → Int → Int → Int → Option (Int × Int × Int × Int × Int × Int × Int × Int × Int × Int)
 | 0, _, _, _, _, _, _, _, _, _, _, _, _ => none
 | k + 1, x1, x1000, x1001, x269000, x269001, x269002, x269003, x269004, x269005, x269006, x269007, x269008 => (spec_l20Rd_pick.f k x1000 x1001 x1).bind fun bt277 => (if bt277.1 > 0 then (some (x269000, x269001, x269002, x269003, x269004, x269005, x269006, x269007, x269008, bt277.2)) else ((spec_l20Rd_pick.f k x1000 bt277.2 5).bind fun bt279 => (if bt279.1 = 0 then ((some (([(-1), 4] : List Int) : List Int)).bind fun y281 => ((spec_l20Rd_pick.f k x1000 bt279.2 2).bind fun bt284 => (if 0 ≤ bt284.1 then (if bt284.1 < (y281.length : Int) then (some (rd y281 bt284.1, x269001, x269002, x269003, x269004, x269005, x269006, x269007, x269008, bt284.2)) else (none)) else (none)))) else (if bt279.1 = 1 then ((spec_l20Win.f k x1000 bt279.2 1).bind fun bt287 => (some (x269000, bt287.1, bt287.2.1, x269003, x269004, x269005, x269006, x269007, x269008, bt287.2.2))) else (if bt279.1 = 2 then ((some (([(-1), 0, 1, 1500, 1501] : List Int) : List Int)).bind fun y290 => ((spec_l20Rd_pick.f k x1000 bt279.2 5).bind fun bt293 => (if 0 ≤ bt293.1 then (if bt293.1 < (y290.length : Int) then (some (x269000, x269001, x269002, rd y290 bt293.1, x269004, x269005, x269006, x269007, x269008, bt293.2)) else (none)) else (none)))) else (if bt279.1 = 3 then ((spec_l20Rd_pick.f k x1000 bt279.2 5).bind fun bt296 => (some (x269000, x269001, x269002, x269003, bt296.1, x269005, x269006, x269007, x269008, bt296.2))) else ((spec_l20Agg.f k x1000 bt279.2 1).bind fun bt298 => (some (x269000, x269001, x269002, x269003, x269004, bt298.1, bt298.2.1, bt298.2.2.1, bt298.2.2.2.1, bt298.2.2.2.2)))))))))
end
def spec_l20Pane.f (k : Nat) (s0_0 : List Int) (s0_1 : Int) (a1 : Int) : Option (Int × Int × Int × Int × Int × Int × Int × Int × Int × Int) := (spec_l20Rd_pick.f k s0_0 s0_1 3).bind fun bt249 => ((some (([(⟨0, 5⟩ : S26), (⟨5, 10⟩ : S26), (⟨3, 12⟩ : S26)] : List (S26)) : List (S26))).bind fun y251 => ((spec_l20Rd_pick.f k s0_0 bt249.2 3).bind fun bt254 => (if 0 ≤ bt254.1 then (if bt254.1 < (y251.length : Int) then ((spec_l20Agg.f k s0_0 bt254.2 99).bind fun bt257 => ((spec_l20Rd_pick.f k s0_0 bt257.2.2.2.2 19).bind fun bt262 => ((spec_AggAdd.f bt257.1 bt257.2.1 bt257.2.2.1 bt257.2.2.2.1 (wrap64 (bt262.1 - 9))).bind fun bt264 => ((spec_l20Rd_pick.f k s0_0 bt262.2 2).bind fun bt269 => (if bt269.1 = 0 then ((spec_l20Rd_pick.f k s0_0 bt269.2 3).bind fun bt271 => (spec_l20Pane.j0 k a1 s0_0 bt271.2 bt249.1 ((rd_T26 y251 bt254.1).f0) ((rd_T26 y251 bt254.1).f1) (wrap64 (1 + bt271.1)) 2 bt264.1 bt264.2.1 bt264.2.2.1 bt264.2.2.2)) else (spec_l20Pane.j0 k a1 s0_0 bt269.2 bt249.1 ((rd_T26 y251 bt254.1).f0) ((rd_T26 y251 bt254.1).f1) 0 1 bt264.1 bt264.2.1 bt264.2.2.1 bt264.2.2.2)))))) else (none)) else (none))))
theorem spec_l20Pane.mono_l : ∀ k, (∀ y0 y1 y2 y3 y4 y5 y6 y7 y8 y9 y10 y11, LeO (spec_l20Pane.j0 k y0 y1 y2 y3 y4 y5 y6 y7 y8 y9 y10 y11) (spec_l20Pane.j0 (k + 1) y0 y1 y2 y3 y4 y5 y6 y7 y8 y9 y10 y11)) ∧ (∀ y0 y1 y2 y3 y4 y5 y6 y7 y8 y9 y10 y11, LeO (spec_l20Pane.j1 k y0 y1 y2 y3 y4 y5 y6 y7 y8 y9 y10 y11) (spec_l20Pane.j1 (k + 1) y0 y1 y2 y3 y4 y5 y6 y7 y8 y9 y10 y11))
 | 0 => ⟨fun _ _ _ _ _ _ _ _ _ _ _ _ r h => by simp [spec_l20Pane.j0] at h, fun _ _ _ _ _ _ _ _ _ _ _ _ r h => by simp [spec_l20Pane.j1] at h⟩
 | k + 1 => by
  obtain ⟨ih0, ih1⟩ := spec_l20Pane.mono_l k
  refine ⟨?_, ?_⟩
  ·intro y0 y1 y2 y3 y4 y5 y6 y7 y8 y9 y10 y11
   unfold spec_l20Pane.j0
   repeat' first
   | (with_reducible exact ih0 _ _ _ _ _ _ _ _ _ _ _ _)
   | (with_reducible exact ih1 _ _ _ _ _ _ _ _ _ _ _ _)
   | (with_reducible exact spec_l20Agg.mono _ _ _ _)
   | (with_reducible exact spec_l20Rd_pick.mono _ _ _ _)
   | (with_reducible exact spec_l20Win.mono _ _ _ _)
   | (with_reducible exact LeO.refl _)
   | (with_reducible exact LeO.none _)
   | (with_reducible refine LeO.ite ?_ ?_)
   | (with_reducible refine LeO.bind ?_ (fun _ => ?_))
   | exact ih0 _ _ _ _ _ _ _ _ _ _ _ _
   | exact ih1 _ _ _ _ _ _ _ _ _ _ _ _
   | exact spec_l20Agg.mono _ _ _ _
   | exact spec_l20Rd_pick.mono _ _ _ _
   | exact spec_l20Win.mono _ _ _ _
   | exact LeO.none _
   | refine LeO.ite ?_ ?_
   | refine LeO.bind ?_ (fun _ => ?_)
  ·intro y0 y1 y2 y3 y4 y5 y6 y7 y8 y9 y10 y11
   unfold spec_l20Pane.j1
   repeat' first
   | (with_reducible exact ih0 _ _ _ _ _ _ _ _ _ _ _ _)
   | (with_reducible exact ih1 _ _ _ _ _ _ _ _ _ _ _ _)
   | (with_reducible exact spec_l20Agg.mono _ _ _ _)
   | (with_reducible exact spec_l20Rd_pick.mono _ _ _ _)
   | (with_reducible exact spec_l20Win.mono _ _ _ _)
   | (with_reducible exact LeO.refl _)
   | (with_reducible exact LeO.none _)
   | (with_reducible refine LeO.ite ?_ ?_)
   | (with_reducible refine LeO.bind ?_ (fun _ => ?_))
   | exact ih0 _ _ _ _ _ _ _ _ _ _ _ _
   | exact ih1 _ _ _ _ _ _ _ _ _ _ _ _
   | exact spec_l20Agg.mono _ _ _ _
   | exact spec_l20Rd_pick.mono _ _ _ _
   | exact spec_l20Win.mono _ _ _ _
   | exact LeO.none _
   | refine LeO.ite ?_ ?_
   | refine LeO.bind ?_ (fun _ => ?_)
theorem spec_l20Pane.mono : ∀ a0 a1 a2 k, LeO (spec_l20Pane.f k a0 a1 a2) (spec_l20Pane.f (k + 1) a0 a1 a2) := by
 intro a0 a1 a2 k
 obtain ⟨ih0, ih1⟩ := spec_l20Pane.mono_l k
 unfold spec_l20Pane.f
 repeat' first
   | (with_reducible exact ih0 _ _ _ _ _ _ _ _ _ _ _ _)
   | (with_reducible exact ih1 _ _ _ _ _ _ _ _ _ _ _ _)
   | (with_reducible exact spec_l20Agg.mono _ _ _ _)
   | (with_reducible exact spec_l20Rd_pick.mono _ _ _ _)
   | (with_reducible exact spec_l20Win.mono _ _ _ _)
   | (with_reducible exact LeO.refl _)
   | (with_reducible exact LeO.none _)
   | (with_reducible refine LeO.ite ?_ ?_)
   | (with_reducible refine LeO.bind ?_ (fun _ => ?_))
   | exact ih0 _ _ _ _ _ _ _ _ _ _ _ _
   | exact ih1 _ _ _ _ _ _ _ _ _ _ _ _
   | exact spec_l20Agg.mono _ _ _ _
   | exact spec_l20Rd_pick.mono _ _ _ _
   | exact spec_l20Win.mono _ _ _ _
   | exact LeO.none _
   | refine LeO.ite ?_ ?_
   | refine LeO.bind ?_ (fun _ => ?_)
def spec_l20Pane.T1 : Bool × List (List Nat × List Nat) := (true, [([], []), ([0], [0]), ([], []), ([], []), ([], []), ([2, 3, 4], [2, 3, 4]), ([], []), ([6, 1], [6]), ([5, 7], [5, 7]), ([8], [8]), ([], []), ([10, 7], [10]), ([], []), ([12, 11], [12]), ([13], [13]), ([11, 14, 13], [11, 14]), ([1, 9, 15], [1, 9, 15]), ([], []), ([17, 16, 15, 0, 1, 2, 3, 4, 5, 6, 7, 8, 9, 10, 11, 12, 13, 14, 15, 16, 17], [16, 17])])
def spec_l20Pane.B1 : List Nat := [0, 1, 0, 0, 0, 28, 0, 67, 255, 511, 0, 1219, 0, 7363, 15555, 31939, 65535, 0, 262143]
theorem spec_l20Pane.tab1 : rtab .any (opsOf Try.f65 1) = spec_l20Pane.T1 := by kernel_rfl
theorem spec_l20Pane.bits1 : waitsOk spec_l20Pane.T1.2 spec_l20Pane.B1 = true := by kernel_rfl
def spec_l20Pane.T6 : Bool × List (List Nat × List Nat) := (true, [([], []), ([0], [0]), ([], []), ([2], [2]), ([], []), ([4], [4]), ([5], [5]), ([1, 3, 6], [1, 3, 6]), ([7, 5, 0, 1, 2, 3, 4, 5, 6, 7], [7])])
def spec_l20Pane.B6 : List Nat := [0, 1, 0, 4, 0, 16, 48, 127, 255]
theorem spec_l20Pane.tab6 : rtab .any (opsOf Try.f65 6) = spec_l20Pane.T6 := by kernel_rfl
theorem spec_l20Pane.bits6 : waitsOk spec_l20Pane.T6.2 spec_l20Pane.B6 = true := by kernel_rfl
set_option maxHeartbeats 8000000 in
set_option maxRecDepth 100000 in
theorem spec_l20Pane.calls (k : Nat) (g : Nat) (s0_0 : List Int) (s0_1 : Int) (a1 : Int) (r1 : Int) (r2 : Int) (r3 : Int) (r4 : Int) (r5 : Int) (r6 : Int) (r7 : Int) (r8 : Int) (r9 : Int) (r10 : Int) (w0 w : World) (hI : I81_ w0 w g s0_0 s0_1) (hB : Below w0.heap.size w0 w) (h : spec_l20Pane.f k s0_0 s0_1 a1 = some (r1, r2, r3, r4, r5, r6, r7, r8, r9, r10)) :
  Calls Try.prog 65 #[.pointer (some ⟨g, 0, none⟩), .int .i64 a1] w fun e w' => e = .returned (.agg #[.int .i64 r1, .int .i64 r2, .int .i64 r3, .int .i64 r4, .int .i64 r5, .int .i64 r6, .int .i64 r7, .int .i64 r8, .int .i64 r9]) ∧ I81_ w0 w' g s0_0 r10 ∧ Below w0.heap.size w0 w' ∧ KeepBut w w' g none := by
 have hu89 := Try.underlying89
 have hu26 := Try.underlying26
 have hu34 := Try.underlying34
 have HI0 := Az_.mk hI
 have HG0 := Az_.mk (show g < w.heap.size from hI.lt)
 have HK := Az_.mk (KeepBut.refl w g none)
 have HL := Az_.mk hB.size
 clear hI
 have HW0 := Az_.mk hB.size
 have HB := Az_.mk hB
 clear hB
 have H : ((spec_l20Rd_pick.f k s0_0 s0_1 3).bind fun bt249 => ((some (([(⟨0, 5⟩ : S26), (⟨5, 10⟩ : S26), (⟨3, 12⟩ : S26)] : List (S26)) : List (S26))).bind fun y251 => ((spec_l20Rd_pick.f k s0_0 bt249.2 3).bind fun bt254 => (if 0 ≤ bt254.1 then (if bt254.1 < (y251.length : Int) then ((spec_l20Agg.f k s0_0 bt254.2 99).bind fun bt257 => ((spec_l20Rd_pick.f k s0_0 bt257.2.2.2.2 19).bind fun bt262 => ((spec_AggAdd.f bt257.1 bt257.2.1 bt257.2.2.1 bt257.2.2.2.1 (wrap64 (bt262.1 - 9))).bind fun bt264 => ((spec_l20Rd_pick.f k s0_0 bt262.2 2).bind fun bt269 => (if bt269.1 = 0 then ((spec_l20Rd_pick.f k s0_0 bt269.2 3).bind fun bt271 => (spec_l20Pane.j0 k a1 s0_0 bt271.2 bt249.1 ((rd_T26 y251 bt254.1).f0) ((rd_T26 y251 bt254.1).f1) (wrap64 (1 + bt271.1)) 2 bt264.1 bt264.2.1 bt264.2.2.1 bt264.2.2.2)) else (spec_l20Pane.j0 k a1 s0_0 bt269.2 bt249.1 ((rd_T26 y251 bt254.1).f0) ((rd_T26 y251 bt254.1).f1) 0 1 bt264.1 bt264.2.1 bt264.2.2.1 bt264.2.2.2)))))) else (none)) else (none))))) = some (r1, r2, r3, r4, r5, r6, r7, r8, r9, r10) := h
 clear h
 replace H := Option.bind_eq_some_iff.mp H
 obtain ⟨⟨t249, t250⟩, A30, H⟩ := H
 replace H : ((some (([(⟨0, 5⟩ : S26), (⟨5, 10⟩ : S26), (⟨3, 12⟩ : S26)] : List (S26)) : List (S26))).bind fun y251 => ((spec_l20Rd_pick.f k s0_0 t250 3).bind fun bt254 => (if 0 ≤ bt254.1 then (if bt254.1 < (y251.length : Int) then ((spec_l20Agg.f k s0_0 bt254.2 99).bind fun bt257 => ((spec_l20Rd_pick.f k s0_0 bt257.2.2.2.2 19).bind fun bt262 => ((spec_AggAdd.f bt257.1 bt257.2.1 bt257.2.2.1 bt257.2.2.2.1 (wrap64 (bt262.1 - 9))).bind fun bt264 => ((spec_l20Rd_pick.f k s0_0 bt262.2 2).bind fun bt269 => (if bt269.1 = 0 then ((spec_l20Rd_pick.f k s0_0 bt269.2 3).bind fun bt271 => (spec_l20Pane.j0 k a1 s0_0 bt271.2 t249 ((rd_T26 y251 bt254.1).f0) ((rd_T26 y251 bt254.1).f1) (wrap64 (1 + bt271.1)) 2 bt264.1 bt264.2.1 bt264.2.2.1 bt264.2.2.2)) else (spec_l20Pane.j0 k a1 s0_0 bt269.2 t249 ((rd_T26 y251 bt254.1).f0) ((rd_T26 y251 bt254.1).f1) 0 1 bt264.1 bt264.2.1 bt264.2.2.1 bt264.2.2.2)))))) else (none)) else (none)))) = some (r1, r2, r3, r4, r5, r6, r7, r8, r9, r10) := H
 have A3 := Az_.mk A30
 clear A30
 obtain ⟨y251, hy251⟩ : ∃ y_ : List (S26), y_ = (([(⟨0, 5⟩ : S26), (⟨5, 10⟩ : S26), (⟨3, 12⟩ : S26)] : List (S26))) := ⟨_, rfl⟩
 replace H : ((spec_l20Rd_pick.f k s0_0 t250 3).bind fun bt254 => (if 0 ≤ bt254.1 then (if bt254.1 < (y251.length : Int) then ((spec_l20Agg.f k s0_0 bt254.2 99).bind fun bt257 => ((spec_l20Rd_pick.f k s0_0 bt257.2.2.2.2 19).bind fun bt262 => ((spec_AggAdd.f bt257.1 bt257.2.1 bt257.2.2.1 bt257.2.2.2.1 (wrap64 (bt262.1 - 9))).bind fun bt264 => ((spec_l20Rd_pick.f k s0_0 bt262.2 2).bind fun bt269 => (if bt269.1 = 0 then ((spec_l20Rd_pick.f k s0_0 bt269.2 3).bind fun bt271 => (spec_l20Pane.j0 k a1 s0_0 bt271.2 t249 ((rd_T26 y251 bt254.1).f0) ((rd_T26 y251 bt254.1).f1) (wrap64 (1 + bt271.1)) 2 bt264.1 bt264.2.1 bt264.2.2.1 bt264.2.2.2)) else (spec_l20Pane.j0 k a1 s0_0 bt269.2 t249 ((rd_T26 y251 bt254.1).f0) ((rd_T26 y251 bt254.1).f1) 0 1 bt264.1 bt264.2.1 bt264.2.2.1 bt264.2.2.2)))))) else (none)) else (none))) = some (r1, r2, r3, r4, r5, r6, r7, r8, r9, r10) := by first | (rw [hy251]; with_reducible exact H) | (have H2_ := (Option.bind_some _ _).symm.trans H; rw [hy251]; with_reducible exact H2_) | (have H2_ := (Option.bind_some _ _).symm.trans H; with_reducible exact H2_) | with_reducible exact H | (rw [hy251]; exact H) | exact H
 have Ny251 := Az_.mk hy251
 clear hy251
 replace H := Option.bind_eq_some_iff.mp H
 obtain ⟨⟨t254, t255⟩, A40, H⟩ := H
 replace H : (if 0 ≤ t254 then (if t254 < (y251.length : Int) then ((spec_l20Agg.f k s0_0 t255 99).bind fun bt257 => ((spec_l20Rd_pick.f k s0_0 bt257.2.2.2.2 19).bind fun bt262 => ((spec_AggAdd.f bt257.1 bt257.2.1 bt257.2.2.1 bt257.2.2.2.1 (wrap64 (bt262.1 - 9))).bind fun bt264 => ((spec_l20Rd_pick.f k s0_0 bt262.2 2).bind fun bt269 => (if bt269.1 = 0 then ((spec_l20Rd_pick.f k s0_0 bt269.2 3).bind fun bt271 => (spec_l20Pane.j0 k a1 s0_0 bt271.2 t249 ((rd_T26 y251 t254).f0) ((rd_T26 y251 t254).f1) (wrap64 (1 + bt271.1)) 2 bt264.1 bt264.2.1 bt264.2.2.1 bt264.2.2.2)) else (spec_l20Pane.j0 k a1 s0_0 bt269.2 t249 ((rd_T26 y251 t254).f0) ((rd_T26 y251 t254).f1) 0 1 bt264.1 bt264.2.1 bt264.2.2.1 bt264.2.2.2)))))) else (none)) else (none)) = some (r1, r2, r3, r4, r5, r6, r7, r8, r9, r10) := H
 have A4 := Az_.mk A40
 clear A40
 by_cases c5 : 0 ≤ t254
 ·rw [if_pos c5] at H
  have c5b0 : decide (0 ≤ t254) = true := decide_eq_true c5
  clear c5
  by_cases c6 : t254 < (y251.length : Int)
  ·rw [if_pos c6] at H
   have c6b0 : decide (t254 < (y251.length : Int)) = true := decide_eq_true c6
   clear c6
   replace H := Option.bind_eq_some_iff.mp H
   obtain ⟨⟨t257, t258, t259, t260, t261⟩, A70, H⟩ := H
   replace H : ((spec_l20Rd_pick.f k s0_0 t261 19).bind fun bt262 => ((spec_AggAdd.f t257 t258 t259 t260 (wrap64 (bt262.1 - 9))).bind fun bt264 => ((spec_l20Rd_pick.f k s0_0 bt262.2 2).bind fun bt269 => (if bt269.1 = 0 then ((spec_l20Rd_pick.f k s0_0 bt269.2 3).bind fun bt271 => (spec_l20Pane.j0 k a1 s0_0 bt271.2 t249 ((rd_T26 y251 t254).f0) ((rd_T26 y251 t254).f1) (wrap64 (1 + bt271.1)) 2 bt264.1 bt264.2.1 bt264.2.2.1 bt264.2.2.2)) else (spec_l20Pane.j0 k a1 s0_0 bt269.2 t249 ((rd_T26 y251 t254).f0) ((rd_T26 y251 t254).f1) 0 1 bt264.1 bt264.2.1 bt264.2.2.1 bt264.2.2.2))))) = some (r1, r2, r3, r4, r5, r6, r7, r8, r9, r10) := H
   have A7 := Az_.mk A70
   clear A70
   replace H := Option.bind_eq_some_iff.mp H
   obtain ⟨⟨t262, t263⟩, A80, H⟩ := H
   replace H : ((spec_AggAdd.f t257 t258 t259 t260 (wrap64 (t262 - 9))).bind fun bt264 => ((spec_l20Rd_pick.f k s0_0 t263 2).bind fun bt269 => (if bt269.1 = 0 then ((spec_l20Rd_pick.f k s0_0 bt269.2 3).bind fun bt271 => (spec_l20Pane.j0 k a1 s0_0 bt271.2 t249 ((rd_T26 y251 t254).f0) ((rd_T26 y251 t254).f1) (wrap64 (1 + bt271.1)) 2 bt264.1 bt264.2.1 bt264.2.2.1 bt264.2.2.2)) else (spec_l20Pane.j0 k a1 s0_0 bt269.2 t249 ((rd_T26 y251 t254).f0) ((rd_T26 y251 t254).f1) 0 1 bt264.1 bt264.2.1 bt264.2.2.1 bt264.2.2.2)))) = some (r1, r2, r3, r4, r5, r6, r7, r8, r9, r10) := H
   have A8 := Az_.mk A80
   clear A80
   replace H := Option.bind_eq_some_iff.mp H
   obtain ⟨⟨t264, t265, t266, t267⟩, A90, H⟩ := H
   replace H : ((spec_l20Rd_pick.f k s0_0 t263 2).bind fun bt269 => (if bt269.1 = 0 then ((spec_l20Rd_pick.f k s0_0 bt269.2 3).bind fun bt271 => (spec_l20Pane.j0 k a1 s0_0 bt271.2 t249 ((rd_T26 y251 t254).f0) ((rd_T26 y251 t254).f1) (wrap64 (1 + bt271.1)) 2 t264 t265 t266 t267)) else (spec_l20Pane.j0 k a1 s0_0 bt269.2 t249 ((rd_T26 y251 t254).f0) ((rd_T26 y251 t254).f1) 0 1 t264 t265 t266 t267))) = some (r1, r2, r3, r4, r5, r6, r7, r8, r9, r10) := H
   have A9 := Az_.mk A90
   clear A90
   replace H := Option.bind_eq_some_iff.mp H
   obtain ⟨⟨t269, t270⟩, A100, H⟩ := H
   replace H : (if t269 = 0 then ((spec_l20Rd_pick.f k s0_0 t270 3).bind fun bt271 => (spec_l20Pane.j0 k a1 s0_0 bt271.2 t249 ((rd_T26 y251 t254).f0) ((rd_T26 y251 t254).f1) (wrap64 (1 + bt271.1)) 2 t264 t265 t266 t267)) else (spec_l20Pane.j0 k a1 s0_0 t270 t249 ((rd_T26 y251 t254).f0) ((rd_T26 y251 t254).f1) 0 1 t264 t265 t266 t267)) = some (r1, r2, r3, r4, r5, r6, r7, r8, r9, r10) := H
   have A10 := Az_.mk A100
   clear A100
   have HC11 := Az_.mk H
   clear H
   go_enter Try.func65, Try.ntmps65
   try go_wp2_with (first | ((with_reducible refine gate_dst (N := 4) rfl ?_); refine box_event ?hg (N := 4) ?hd (cs := #[.int .i64 0, .int .i64 0, .int .i64 0, .int .i64 0, .int .i64 0, .int .i64 0, .int .i64 0, .int .i64 0, .int .i64 0]) (t := 89) ?hr ?_; (case hd => rfl); (case hg => rfl); (case hr => first | (go_simp; done) | (go_simp; rfl)); intro gb248 hg w12 hbox hb; have n0_ := Az_.mk (I81_.below (by repeat (first | (with_reducible first | exact HI0.out | apply I81_.alloc | apply I81_.drewN | apply I81_.drew | apply I81_.set_1) | exact HI0.out)) hb); have n1_ := Az_.mk (KeepBut.trans (by repeat (first | (with_reducible first | exact HK.out | apply KeepBut.set_ | apply kN_ | apply kD_ | apply kA_) | exact HK.out)) (KeepBut.of_below hb g none) (.inl rfl)); have n2_ := Az_.mk (below_step (by repeat (first | (with_reducible first | exact HB.out | apply eA_ | apply pN_ | apply eD_ | refine eS_ ?_ (I81_.ge HI0.out)) | exact HB.out)) hb); have n3_ := Az_.mk (hbox); have n4_ := Az_.mk ((by rw [hg]; exact (keep_size (w := w) (g := g) (row := none) (by repeat (first | (with_reducible first | exact HK.out | apply KeepBut.set_ | apply kN_ | apply kD_ | apply kA_) | exact HK.out))) : w.heap.size ≤ gb248)); have n5_ := Az_.mk ((Nat.le_trans HW0.out (by rw [hg]; exact (keep_size (w := w) (g := g) (row := none) (by repeat (first | (with_reducible first | exact HK.out | apply KeepBut.set_ | apply kN_ | apply kD_ | apply kA_) | exact HK.out))) : w.heap.size ≤ gb248) : w0.heap.size ≤ gb248)); have n6_ := Az_.mk ((by rw [hg]; exact Nat.ne_of_lt (Nat.lt_of_lt_of_le HG0.out (keep_size (w := w) (g := g) (row := none) (by repeat (first | (with_reducible first | exact HK.out | apply KeepBut.set_ | apply kN_ | apply kD_ | apply kA_) | exact HK.out)))) : g ≠ gb248)); have n7_ := Az_.mk ((by rw [hg]; exact Nat.ne_of_gt (Nat.lt_of_lt_of_le HG0.out (keep_size (w := w) (g := g) (row := none) (by repeat (first | (with_reducible first | exact HK.out | apply KeepBut.set_ | apply kN_ | apply kD_ | apply kA_) | exact HK.out)))) : gb248 ≠ g)); clear HI0; clear HK; clear HB; have HI0 := n0_; have HK := n1_; have HB := n2_; have BK248 := n3_; have GW248 := n4_; have GE248 := n5_; have NB0_248 := n6_; have NB248_0 := n7_; clear n0_ n1_ n2_ n3_ n4_ n5_ n6_ n7_; clear hb hbox hg))
   have pi256 : (0 ≤ (t254 : Int)) = True := eq_true (of_decide_eq_true (by first | (with_reducible assumption) | assumption))
   have qi256 : (t254 < (y251.length : Int)) = True := eq_true (of_decide_eq_true (by first | (with_reducible assumption) | assumption))
   have n0_ := Az_.mk (bD_ BK248.out)
   have n1_ := Az_.mk (I81_.drew HI0.out)
   have n2_ := Az_.mk (kD_ HK.out)
   have n3_ := Az_.mk (eD_ HB.out)
   clear BK248
   clear HI0
   clear HK
   clear HB
   have BK248 := n0_
   have HI0 := n1_
   have HK := n2_
   have HB := n3_
   clear n0_ n1_ n2_ n3_
   refine start_ (n := 19) (S := fun w' => True) (ds := []) #[false, false, false, false, false, false, false, false, false, false, false, false, false, false, false, false, false, false, false] (by kernel_rfl) rfl rfl trivial (fun hHeld => ?_); refine with_tabW spec_l20Pane.tab1 spec_l20Pane.bits1 (fun HT_ HW_ => ?_)
   generalize w12.drew = w13 at BK248 HI0 HK HB hHeld ⊢
   refine pure_ (i := 0) (N := some 6) (v := ?_) (a' := ?_) #[true, false, false, false, false, false, false, false, false, false, false, false, false, false, false, false, false, false, false] rfl rfl (any_of HT_.out (by kernel_rfl)) (fun _ _ _ h => h) (Or.inl ⟨by rfl, ?_⟩) ?_ ?_
   rotate_left
   ·intro w'
    go_simp
    with_reducible rfl
   rotate_left
   ·simp only [Act.put, List.setIfInBounds_toArray, List.set_cons_zero, List.set_cons_succ, i64_w, i32_w]
    rfl
   refine pure_ (i := 6) (N := some 12) (v := ?_) (a' := ?_) #[true, false, false, false, false, false, true, false, false, false, false, false, false, false, false, false, false, false, false] rfl rfl (any_of HT_.out (by kernel_rfl)) (fun _ _ _ h => h) (Or.inl ⟨by rfl, ?_⟩) ?_ ?_
   rotate_left
   ·intro w'
    go_simp
    with_reducible rfl
   rotate_left
   ·simp only [Act.put, List.setIfInBounds_toArray, List.set_cons_zero, List.set_cons_succ, i64_w, i32_w]
    rfl
   refine pure_ (i := 10) (N := some 16) (v := ?_) (a' := ?_) #[true, false, false, false, false, false, true, false, false, false, true, false, false, false, false, false, false, false, false] rfl rfl (any_of HT_.out (by kernel_rfl)) (fun _ _ _ h => h) (Or.inl ⟨by rfl, ?_⟩) ?_ ?_
   rotate_left
   ·intro w'
    go_simp
    with_reducible rfl
   rotate_left
   ·simp only [Act.put, List.setIfInBounds_toArray, List.set_cons_zero, List.set_cons_succ, i64_w, i32_w]
    rfl
   refine pure_ (i := 12) (N := some 18) (v := ?_) (a' := ?_) #[true, false, false, false, false, false, true, false, false, false, true, false, true, false, false, false, false, false, false] rfl rfl (any_of HT_.out (by kernel_rfl)) (fun _ _ _ h => h) (Or.inl ⟨by rfl, ?_⟩) ?_ ?_
   rotate_left
   ·intro w'
    go_simp
    with_reducible rfl
   rotate_left
   ·simp only [Act.put, List.setIfInBounds_toArray, List.set_cons_zero, List.set_cons_succ, i64_w, i32_w]
    rfl
   refine inv_at [1, 2, 3, 4, 5, 7, 8, 9, 11, 13, 14, 15, 16, 17, 18] (fun a0_ b a w' => ∃ (v252 : Value) (adz_v252 : Addr) (gb268 : Nat) (m8_ : Value) (m17_ : Value), a = putSel a0_ b [(1, 7, .int .i64 t249), (2, 8, .agg #[.int .i64 0, .int .i64 5]), (3, 9, .agg #[.int .i64 5, .int .i64 10]), (4, 10, .agg #[.int .i64 3, .int .i64 12]), (5, 11, v252), (7, 13, .int .i64 t254), (8, 14, m8_), (9, 15, .agg #[.int .i64 ((rd_T26 y251 t254).f0), .int .i64 ((rd_T26 y251 t254).f1)]), (11, 17, .agg #[.int .i64 t257, .int .i64 t258, .int .i64 t259, .int .i64 t260]), (13, 19, .int .i64 t262), (14, 20, .int .i64 (wrap64 (t262 - 9))), (15, 21, .agg #[.int .i64 t264, .int .i64 t265, .int .i64 t266, .int .i64 t267]), (16, 22, .agg #[.int .i64 t249, .int .i64 ((rd_T26 y251 t254).f0), .int .i64 ((rd_T26 y251 t254).f1), .int .i64 0, .int .i64 1, .int .i64 t264, .int .i64 t265, .int .i64 t266, .int .i64 t267]), (17, 5, m17_)] ∧ (w'.heap[gb248]? = some (.cells #[.int .i64 0, .int .i64 0, .int .i64 0, .int .i64 0, .int .i64 0, .int .i64 0, .int .i64 0, .int .i64 0, .int .i64 0] 89 (0, 0))) ∧ (b 1 = false → I81_ w0 w' g s0_0 s0_1) ∧ (KeepBut w w' g none) ∧ (Below w0.heap.size w0 w') ∧ (b 1 = true → b 7 = false → I81_ w0 w' g s0_0 t250) ∧ (b 5 = true → Kd.R k26 26 w' w.heap.size (fun _ => True) v252 y251) ∧ (b 5 = true → ∃ c_, (v252 : Value) = .slice (some adz_v252) y251.length c_) ∧ (b 7 = true → b 11 = false → I81_ w0 w' g s0_0 t255) ∧ (b 11 = true → b 13 = false → I81_ w0 w' g s0_0 t261) ∧ (b 13 = true → I81_ w0 w' g s0_0 t263) ∧ (b 17 = true → b 18 = false → w'.heap[gb268]? = some (.cells #[.int .i64 0, .int .i64 0, .int .i64 0, .int .i64 0, .int .i64 0, .int .i64 0, .int .i64 0, .int .i64 0, .int .i64 0] 89 (0, 0))) ∧ (b 17 = true → w.heap.size ≤ gb268) ∧ (b 17 = true → w0.heap.size ≤ gb268) ∧ (b 17 = true → g ≠ gb268) ∧ (b 17 = true → gb268 ≠ g) ∧ (b 17 = true → gb248 ≠ gb268) ∧ (b 17 = true → gb268 ≠ gb248) ∧ (b 18 = true → w'.heap[gb268]? = some (.cells #[.int .i64 t249, .int .i64 ((rd_T26 y251 t254).f0), .int .i64 ((rd_T26 y251 t254).f1), .int .i64 0, .int .i64 1, .int .i64 t264, .int .i64 t265, .int .i64 t266, .int .i64 t267] 89 (0, 0))) ∧ (b 8 = true → (m8_ : Value) = .pointer (some (adz_v252.add ((t254).toNat * 2)))) ∧ (b 17 = true → (m17_ : Value) = .pointer (some ⟨gb268, 0, none⟩))) HT_.out HW_.out (by kernel_rfl) (by kernel_rfl) ?_ ?_ ?_
   ·exact ⟨.bool false, ⟨0, 0, none⟩, 0, .bool false, .bool false, by simp only [putSel, Bool.false_eq_true, if_false], BK248.out, fun _ => HI0.out, HK.out, HB.out, fun h_ => absurd h_ (by decide), fun h_ => absurd h_ (by decide), fun h_ => absurd h_ (by decide), fun h_ => absurd h_ (by decide), fun h_ => absurd h_ (by decide), fun h_ => absurd h_ (by decide), fun h_ => absurd h_ (by decide), fun h_ => absurd h_ (by decide), fun h_ => absurd h_ (by decide), fun h_ => absurd h_ (by decide), fun h_ => absurd h_ (by decide), fun h_ => absurd h_ (by decide), fun h_ => absurd h_ (by decide), fun h_ => absurd h_ (by decide), fun h_ => absurd h_ (by decide), fun h_ => absurd h_ (by decide)⟩
   ·skip
    clear BK248 HB HI0 HK
    refine steps_cons ?_ ?_
    ·rintro b a w' ⟨v252, adz_v252, gb268, m8_, m17_, ha, Q_BK248, Q_HI0, Q_HK, Q_HB, Q_HI0_e1, Q_HO253, Q_HA_HO253, Q_HI0_e7, Q_HI0_e11, Q_HI0_e13, Q_BK268, Q_GW268, Q_GE268, Q_NB0_268, Q_NB268_0, Q_NB248_268, Q_NB268_248, Q_BK268_e18, Q_X8_, Q_X17_⟩ hb_ hon hoff
     refine ⟨_, rfl, fun K hK => ?_⟩
     have e6 : a.tmps[6]? = some (.pointer (some ⟨g, 0, none⟩)) := by rw [ha]; exact (putSel_off rfl).trans rfl
     replace ha := Az_.mk ha
     have BK248 := Az_.mk Q_BK248
     have HI0 := Az_.mk (Q_HI0 hb_)
     have HK := Az_.mk Q_HK
     have HB := Az_.mk Q_HB
     refine goes_ Try.func53 (by kernel_rfl) rfl #[.pointer (some ⟨g, 0, none⟩), .int .i64 3] (by rfl) rfl rfl (by first | (simp only [List.map_toArray, List.map_cons, List.map_nil, Act.eval, Array.getD_eq_getD_getElem?, Option.getD_some, e6]; done) | (simp only [List.map_toArray, List.map_cons, List.map_nil, Act.eval, Array.getD_eq_getD_getElem?, Option.getD_some, e6]; rfl)) ?_
     with_reducible refine (spec_l20Rd_pick.calls k g s0_0 s0_1 3 t249 t250 w0 _ ?side1 ?side2 A3.out).mono ?_
     (case side1 => repeat (first | (with_reducible first | exact HI0.out | apply I81_.alloc | apply I81_.drewN | apply I81_.drew | apply I81_.set_1 | refine I81_.far ?_ NB0_248.out _) | exact HI0.out))
     (case side2 => repeat (first | (with_reducible first | exact HB.out | apply eA_ | apply pN_ | apply eD_ | refine eS_ ?_ (I81_.ge HI0.out) | refine eS_ ?_ GE248.out) | exact HB.out))
     rintro e w14 ⟨rfl, hi, hb, hk⟩
     refine ⟨_, rfl, ?_⟩
     have n0_ := Az_.mk (KeepBut.blk hk (g' := gb248) (o := .cells #[.int .i64 0, .int .i64 0, .int .i64 0, .int .i64 0, .int .i64 0, .int .i64 0, .int .i64 0, .int .i64 0, .int .i64 0] 89 (0, 0)) (by (with_reducible repeat (first | refine bN_ ?_ _ | refine bD_ ?_ | refine bA_ ?_ _)); exact BK248.out) NB248_0.out (by simp))
     have n1_ := Az_.mk (KeepBut.trans (by repeat (first | (with_reducible first | exact HK.out | apply KeepBut.set_ | apply kN_ | apply kD_ | apply kA_ | refine kF_ ?_ GW248.out _) | exact HK.out)) hk (.inl rfl))
     have n2_ := Az_.mk (hb)
     have n3_ := Az_.mk (hi)
     have z_HO253 := fun (h0_ : b 5 = true) => (show Kd.R k26 26 w14 w.heap.size (fun _ => True) v252 y251 from by first | exact (Kd.R_mono (Kd.R_keep (I81_.apart (show I81_ w0 _ g s0_0 s0_1 from by repeat (first | (with_reducible first | exact HI0.out | apply I81_.alloc | apply I81_.drewN | apply I81_.drew | apply I81_.set_1 | refine I81_.far ?_ NB0_248.out _) | exact HI0.out)) (by (with_reducible repeat (first | apply Kd.R_alloc | apply Kd.R_drewN | apply Kd.R_drew)); exact (Q_HO253 h0_)) (by decide)) hk (fun _ h => h.2)) (fun _ h => h.1)) | exact Kd.R_mono (Kd.R_mono (Kd.R_keep (I81_.apart (show I81_ w0 _ g s0_0 s0_1 from by repeat (first | (with_reducible first | exact HI0.out | apply I81_.alloc | apply I81_.drewN | apply I81_.drew | apply I81_.set_1 | refine I81_.far ?_ NB0_248.out _) | exact HI0.out)) (by (with_reducible repeat (first | apply Kd.R_alloc | apply Kd.R_drewN | apply Kd.R_drew)); exact (Q_HO253 h0_)) (by decide)) hk (fun _ h => h.2)) (fun _ h => h.1)) (fun _ h_ => by first | trivial | exact h_ | exact h_.1))
     have z_BK268 := fun (h0_ : b 17 = true) (h1_ : b 18 = false) => (show w14.heap[gb268]? = some (.cells #[.int .i64 0, .int .i64 0, .int .i64 0, .int .i64 0, .int .i64 0, .int .i64 0, .int .i64 0, .int .i64 0, .int .i64 0] 89 (0, 0)) from by first | exact (KeepBut.blk hk (g' := gb268) (o := .cells #[.int .i64 0, .int .i64 0, .int .i64 0, .int .i64 0, .int .i64 0, .int .i64 0, .int .i64 0, .int .i64 0, .int .i64 0] 89 (0, 0)) (by (with_reducible repeat (first | refine bN_ ?_ _ | refine bD_ ?_ | refine bA_ ?_ _)); exact (Q_BK268 h0_ h1_)) (Q_NB268_0 h0_) (by simp)))
     clear BK248
     clear HK
     clear HB
     clear HI0
     have BK248 := n0_
     have HK := n1_
     have HB := n2_
     have HI0 := n3_
     clear n0_ n1_ n2_ n3_
     (try clear hb)
     (try clear hb2)
     (try clear hk)
     (try clear hi)
     refine hK.out _ _ ⟨v252, adz_v252, gb268, m8_, m17_, (by rw [ha.out]; exact putSel_upk 0 hb_ rfl rfl rfl), (by (with_reducible repeat (first | refine bN_ ?_ _ | refine bD_ ?_ | refine bA_ ?_ _)); exact BK248.out), fun h0_ => absurd ((up_self b 1).symm.trans h0_) (by decide), (by repeat (first | (with_reducible first | exact HK.out | apply KeepBut.set_ | apply kN_ | apply kD_ | apply kA_ | refine kF_ ?_ GW248.out _) | exact HK.out)), (by repeat (first | (with_reducible first | exact HB.out | apply eA_ | apply pN_ | apply eD_ | refine eS_ ?_ (I81_.ge HI0.out) | refine eS_ ?_ GE248.out) | exact HB.out)), fun _ _ => (by repeat (first | (with_reducible first | exact HI0.out | apply I81_.alloc | apply I81_.drewN | apply I81_.drew | apply I81_.set_1 | refine I81_.far ?_ NB0_248.out _) | exact HI0.out)), z_HO253, Q_HA_HO253, fun h0_ _ => absurd ((hoff 7 (by kernel_rfl)).symm.trans h0_) (by decide), fun h0_ _ => absurd ((hoff 11 (by kernel_rfl)).symm.trans h0_) (by decide), fun h0_ => absurd ((hoff 13 (by kernel_rfl)).symm.trans h0_) (by decide), z_BK268, Q_GW268, Q_GE268, Q_NB0_268, Q_NB268_0, Q_NB248_268, Q_NB268_248, fun h0_ => absurd ((hoff 18 (by kernel_rfl)).symm.trans h0_) (by decide), fun h0_ => absurd ((hoff 8 (by kernel_rfl)).symm.trans h0_) (by decide), Q_X17_⟩
    refine steps_cons ?_ ?_
    ·rintro b a w' ⟨v252, adz_v252, gb268, m8_, m17_, ha, Q_BK248, Q_HI0, Q_HK, Q_HB, Q_HI0_e1, Q_HO253, Q_HA_HO253, Q_HI0_e7, Q_HI0_e11, Q_HI0_e13, Q_BK268, Q_GW268, Q_GE268, Q_NB0_268, Q_NB268_0, Q_NB248_268, Q_NB268_248, Q_BK268_e18, Q_X8_, Q_X17_⟩ hb_ hon hoff
     refine ⟨_, rfl, fun K hK => ?_⟩
     replace ha := Az_.mk ha
     have BK248 := Az_.mk Q_BK248
     have HK := Az_.mk Q_HK
     have HB := Az_.mk Q_HB
     refine value_ (w1 := w') (v := .agg #[.int .i64 0, .int .i64 5]) (by rfl) rfl ?_ ?_
     ·go_simp
      (try simp only [i64_w])
      try rfl
     refine hK.out _ _ ⟨v252, adz_v252, gb268, m8_, m17_, (by rw [ha.out]; exact putSel_upk 1 hb_ rfl rfl rfl), Q_BK248, Q_HI0, Q_HK, Q_HB, Q_HI0_e1, fun h0_ => absurd ((hoff 5 (by kernel_rfl)).symm.trans h0_) (by decide), fun h0_ => absurd ((hoff 5 (by kernel_rfl)).symm.trans h0_) (by decide), Q_HI0_e7, Q_HI0_e11, Q_HI0_e13, Q_BK268, Q_GW268, Q_GE268, Q_NB0_268, Q_NB268_0, Q_NB248_268, Q_NB268_248, fun h0_ => absurd ((hoff 18 (by kernel_rfl)).symm.trans h0_) (by decide), fun h0_ => absurd ((hoff 8 (by kernel_rfl)).symm.trans h0_) (by decide), Q_X17_⟩
    refine steps_cons ?_ ?_
    ·rintro b a w' ⟨v252, adz_v252, gb268, m8_, m17_, ha, Q_BK248, Q_HI0, Q_HK, Q_HB, Q_HI0_e1, Q_HO253, Q_HA_HO253, Q_HI0_e7, Q_HI0_e11, Q_HI0_e13, Q_BK268, Q_GW268, Q_GE268, Q_NB0_268, Q_NB268_0, Q_NB248_268, Q_NB268_248, Q_BK268_e18, Q_X8_, Q_X17_⟩ hb_ hon hoff
     refine ⟨_, rfl, fun K hK => ?_⟩
     replace ha := Az_.mk ha
     have BK248 := Az_.mk Q_BK248
     have HK := Az_.mk Q_HK
     have HB := Az_.mk Q_HB
     refine value_ (w1 := w') (v := .agg #[.int .i64 5, .int .i64 10]) (by rfl) rfl ?_ ?_
     ·go_simp
      (try simp only [i64_w])
      try rfl
     refine hK.out _ _ ⟨v252, adz_v252, gb268, m8_, m17_, (by rw [ha.out]; exact putSel_upk 2 hb_ rfl rfl rfl), Q_BK248, Q_HI0, Q_HK, Q_HB, Q_HI0_e1, fun h0_ => absurd ((hoff 5 (by kernel_rfl)).symm.trans h0_) (by decide), fun h0_ => absurd ((hoff 5 (by kernel_rfl)).symm.trans h0_) (by decide), Q_HI0_e7, Q_HI0_e11, Q_HI0_e13, Q_BK268, Q_GW268, Q_GE268, Q_NB0_268, Q_NB268_0, Q_NB248_268, Q_NB268_248, fun h0_ => absurd ((hoff 18 (by kernel_rfl)).symm.trans h0_) (by decide), fun h0_ => absurd ((hoff 8 (by kernel_rfl)).symm.trans h0_) (by decide), Q_X17_⟩
    refine steps_cons ?_ ?_
    ·rintro b a w' ⟨v252, adz_v252, gb268, m8_, m17_, ha, Q_BK248, Q_HI0, Q_HK, Q_HB, Q_HI0_e1, Q_HO253, Q_HA_HO253, Q_HI0_e7, Q_HI0_e11, Q_HI0_e13, Q_BK268, Q_GW268, Q_GE268, Q_NB0_268, Q_NB268_0, Q_NB248_268, Q_NB268_248, Q_BK268_e18, Q_X8_, Q_X17_⟩ hb_ hon hoff
     refine ⟨_, rfl, fun K hK => ?_⟩
     replace ha := Az_.mk ha
     have BK248 := Az_.mk Q_BK248
     have HK := Az_.mk Q_HK
     have HB := Az_.mk Q_HB
     refine value_ (w1 := w') (v := .agg #[.int .i64 3, .int .i64 12]) (by rfl) rfl ?_ ?_
     ·go_simp
      (try simp only [i64_w])
      try rfl
     refine hK.out _ _ ⟨v252, adz_v252, gb268, m8_, m17_, (by rw [ha.out]; exact putSel_upk 3 hb_ rfl rfl rfl), Q_BK248, Q_HI0, Q_HK, Q_HB, Q_HI0_e1, fun h0_ => absurd ((hoff 5 (by kernel_rfl)).symm.trans h0_) (by decide), fun h0_ => absurd ((hoff 5 (by kernel_rfl)).symm.trans h0_) (by decide), Q_HI0_e7, Q_HI0_e11, Q_HI0_e13, Q_BK268, Q_GW268, Q_GE268, Q_NB0_268, Q_NB268_0, Q_NB248_268, Q_NB268_248, fun h0_ => absurd ((hoff 18 (by kernel_rfl)).symm.trans h0_) (by decide), fun h0_ => absurd ((hoff 8 (by kernel_rfl)).symm.trans h0_) (by decide), Q_X17_⟩
    refine steps_cons ?_ ?_
    ·rintro b a w' ⟨v252, adz_v252, gb268, m8_, m17_, ha, Q_BK248, Q_HI0, Q_HK, Q_HB, Q_HI0_e1, Q_HO253, Q_HA_HO253, Q_HI0_e7, Q_HI0_e11, Q_HI0_e13, Q_BK268, Q_GW268, Q_GE268, Q_NB0_268, Q_NB268_0, Q_NB248_268, Q_NB268_248, Q_BK268_e18, Q_X8_, Q_X17_⟩ hb_ hon hoff
     refine ⟨_, rfl, fun K hK => ?_⟩
     have e8 : a.tmps[8]? = some (.agg #[.int .i64 0, .int .i64 5]) := by rw [ha]; exact putSel_on (e := (2, 8, .agg #[.int .i64 0, .int .i64 5])) 1 rfl rfl (hon 2 (by kernel_rfl)) rfl
     have e9 : a.tmps[9]? = some (.agg #[.int .i64 5, .int .i64 10]) := by rw [ha]; exact putSel_on (e := (3, 9, .agg #[.int .i64 5, .int .i64 10])) 2 rfl rfl (hon 3 (by kernel_rfl)) rfl
     have e10 : a.tmps[10]? = some (.agg #[.int .i64 3, .int .i64 12]) := by rw [ha]; exact putSel_on (e := (4, 10, .agg #[.int .i64 3, .int .i64 12])) 3 rfl rfl (hon 4 (by kernel_rfl)) rfl
     replace ha := Az_.mk ha
     have BK248 := Az_.mk Q_BK248
     have HK := Az_.mk Q_HK
     have HB := Az_.mk Q_HB
     refine Kd.R_lit_step k26 _ 26 ?hg (N := 11) ?hd (xs := ([(⟨0, 5⟩ : S26), (⟨5, 10⟩ : S26), (⟨3, 12⟩ : S26)] : List (S26))) (inner := [.int .i64 0, .int .i64 5, .int .i64 5, .int .i64 10, .int .i64 3, .int .i64 12]) (ok := fun _ => True) (okp := fun _ => True) ?hr ?hp (fun _ hk => hk) trivial (Below.refl _ _) (Nat.le_refl _) (by simp) ?_; (case hd => rfl); (case hg => rfl); (case hr => first | (go_simp; done) | (go_simp; rfl)); (case hp => exact (Reps.c2 (show Kd.M k26 _ _ _ (⟨0, 5⟩ : S26) [.int .i64 0, .int .i64 5] from (k26_mkM _ _ _ (⟨0, 5⟩ : S26) )) (Reps.c2 (show Kd.M k26 _ _ _ (⟨5, 10⟩ : S26) [.int .i64 5, .int .i64 10] from (k26_mkM _ _ _ (⟨5, 10⟩ : S26) )) (Reps.c2 (show Kd.M k26 _ _ _ (⟨3, 12⟩ : S26) [.int .i64 3, .int .i64 12] from (k26_mkM _ _ _ (⟨3, 12⟩ : S26) )) (Reps.none _ _)))))
     intro v252 w14 ho15 hb hg_ hnew_
     clear hg_ hnew_
     (first | rw [← Ny251.out] at ho15 | (simp only [Int.reduceToNat] at ho15; rw [← Ny251.out] at ho15))
     have n0_ := Az_.mk (Kd.R_lower ho15 (keep_size (w := w) (g := g) (row := none) (by repeat (first | (with_reducible first | exact HK.out | apply KeepBut.set_ | apply kN_ | apply kD_ | apply kA_ | refine kF_ ?_ GW248.out _) | exact HK.out))))
     have n2_ := Az_.mk (bB_ (g := gb248) (o := .cells #[.int .i64 0, .int .i64 0, .int .i64 0, .int .i64 0, .int .i64 0, .int .i64 0, .int .i64 0, .int .i64 0, .int .i64 0] 89 (0, 0)) (by (with_reducible repeat (first | refine bN_ ?_ _ | refine bD_ ?_ | refine bA_ ?_ _)); exact BK248.out) hb)
     have n3_ := Az_.mk (KeepBut.trans (by repeat (first | (with_reducible first | exact HK.out | apply KeepBut.set_ | apply kN_ | apply kD_ | apply kA_ | refine kF_ ?_ GW248.out _) | exact HK.out)) (KeepBut.of_below hb g none) (.inl rfl))
     have n4_ := Az_.mk (below_step (by repeat (first | (with_reducible first | exact HB.out | apply eA_ | apply pN_ | apply eD_ | refine eS_ ?_ GE248.out) | exact HB.out)) hb)
     have z_HI0 := fun (h0_ : b 1 = false) => (show I81_ w0 w14 g s0_0 s0_1 from by first | exact (I81_.below (by repeat (first | (with_reducible first | exact (Q_HI0 h0_) | apply I81_.alloc | apply I81_.drewN | apply I81_.drew | apply I81_.set_1 | refine I81_.far ?_ NB0_248.out _) | exact (Q_HI0 h0_))) hb))
     have z_HI0_e1 := fun (h0_ : b 1 = true) (h1_ : b 7 = false) => (show I81_ w0 w14 g s0_0 t250 from by first | exact (I81_.below (by repeat (first | (with_reducible first | exact (Q_HI0_e1 h0_ h1_) | apply I81_.alloc | apply I81_.drewN | apply I81_.drew | apply I81_.set_1 | refine I81_.far ?_ NB0_248.out _) | exact (Q_HI0_e1 h0_ h1_))) hb))
     have z_HI0_e7 := fun (h0_ : b 7 = true) (h1_ : b 11 = false) => (show I81_ w0 w14 g s0_0 t255 from by first | exact (I81_.below (by repeat (first | (with_reducible first | exact (Q_HI0_e7 h0_ h1_) | apply I81_.alloc | apply I81_.drewN | apply I81_.drew | apply I81_.set_1 | refine I81_.far ?_ NB0_248.out _) | exact (Q_HI0_e7 h0_ h1_))) hb))
     have z_HI0_e11 := fun (h0_ : b 11 = true) (h1_ : b 13 = false) => (show I81_ w0 w14 g s0_0 t261 from by first | exact (I81_.below (by repeat (first | (with_reducible first | exact (Q_HI0_e11 h0_ h1_) | apply I81_.alloc | apply I81_.drewN | apply I81_.drew | apply I81_.set_1 | refine I81_.far ?_ NB0_248.out _) | exact (Q_HI0_e11 h0_ h1_))) hb))
     have z_HI0_e13 := fun (h0_ : b 13 = true) => (show I81_ w0 w14 g s0_0 t263 from by first | exact (I81_.below (by repeat (first | (with_reducible first | exact (Q_HI0_e13 h0_) | apply I81_.alloc | apply I81_.drewN | apply I81_.drew | apply I81_.set_1 | refine I81_.far ?_ NB0_248.out _) | exact (Q_HI0_e13 h0_))) hb))
     have z_BK268 := fun (h0_ : b 17 = true) (h1_ : b 18 = false) => (show w14.heap[gb268]? = some (.cells #[.int .i64 0, .int .i64 0, .int .i64 0, .int .i64 0, .int .i64 0, .int .i64 0, .int .i64 0, .int .i64 0, .int .i64 0] 89 (0, 0)) from by first | exact (bB_ (g := gb268) (o := .cells #[.int .i64 0, .int .i64 0, .int .i64 0, .int .i64 0, .int .i64 0, .int .i64 0, .int .i64 0, .int .i64 0, .int .i64 0] 89 (0, 0)) (by (with_reducible repeat (first | refine bN_ ?_ _ | refine bD_ ?_ | refine bA_ ?_ _)); exact (Q_BK268 h0_ h1_)) hb))
     clear BK248
     clear HK
     clear HB
     have HO253 := n0_
     have BK248 := n2_
     have HK := n3_
     have HB := n4_
     clear n0_ n2_ n3_ n4_
     clear hb ho15
     obtain ⟨Ao16, co16, eo16⟩ := Kd.R_slice HO253.out
     subst eo16
     obtain ⟨ado16, fo16, _⟩ := at_T26 (Kd.R_reads' HO253.out).2.2 0 (by decide) (by rw [Ny251.out]; simp)
     cases fo16
     refine hK.out _ _ ⟨.slice (some ado16) y251.length co16, ado16, gb268, m8_, m17_, (by rw [ha.out]; exact putSel_upk 4 hb_ rfl rfl rfl), (by (with_reducible repeat (first | refine bN_ ?_ _ | refine bD_ ?_ | refine bA_ ?_ _)); exact BK248.out), z_HI0, (by repeat (first | (with_reducible first | exact HK.out | apply KeepBut.set_ | apply kN_ | apply kD_ | apply kA_ | refine kF_ ?_ GW248.out _) | exact HK.out)), (by repeat (first | (with_reducible first | exact HB.out | apply eA_ | apply pN_ | apply eD_ | refine eS_ ?_ GE248.out) | exact HB.out)), z_HI0_e1, fun _ => (by (with_reducible repeat (first | apply Kd.R_alloc | apply Kd.R_drewN | apply Kd.R_drew)); exact HO253.out), fun _ => ⟨_, rfl⟩, z_HI0_e7, z_HI0_e11, z_HI0_e13, z_BK268, Q_GW268, Q_GE268, Q_NB0_268, Q_NB268_0, Q_NB248_268, Q_NB268_248, fun h0_ => absurd ((hoff 18 (by kernel_rfl)).symm.trans h0_) (by decide), fun h0_ => absurd ((hoff 8 (by kernel_rfl)).symm.trans h0_) (by decide), Q_X17_⟩
    refine steps_cons ?_ ?_
    ·rintro b a w' ⟨v252, adz_v252, gb268, m8_, m17_, ha, Q_BK248, Q_HI0, Q_HK, Q_HB, Q_HI0_e1, Q_HO253, Q_HA_HO253, Q_HI0_e7, Q_HI0_e11, Q_HI0_e13, Q_BK268, Q_GW268, Q_GE268, Q_NB0_268, Q_NB268_0, Q_NB248_268, Q_NB268_248, Q_BK268_e18, Q_X8_, Q_X17_⟩ hb_ hon hoff
     refine ⟨_, rfl, fun K hK => ?_⟩
     have e12 : a.tmps[12]? = some (.pointer (some ⟨g, 0, none⟩)) := by rw [ha]; exact (putSel_off rfl).trans rfl
     replace ha := Az_.mk ha
     have BK248 := Az_.mk Q_BK248
     have HK := Az_.mk Q_HK
     have HB := Az_.mk Q_HB
     have HI0 := Az_.mk (Q_HI0_e1 (hon 1 (by kernel_rfl)) hb_)
     refine goes_ Try.func53 (by kernel_rfl) rfl #[.pointer (some ⟨g, 0, none⟩), .int .i64 3] (by rfl) rfl rfl (by first | (simp only [List.map_toArray, List.map_cons, List.map_nil, Act.eval, Array.getD_eq_getD_getElem?, Option.getD_some, e12]; done) | (simp only [List.map_toArray, List.map_cons, List.map_nil, Act.eval, Array.getD_eq_getD_getElem?, Option.getD_some, e12]; rfl)) ?_
     with_reducible refine (spec_l20Rd_pick.calls k g s0_0 t250 3 t254 t255 w0 _ ?side1 ?side2 A4.out).mono ?_
     (case side1 => repeat (first | (with_reducible first | exact HI0.out | apply I81_.alloc | apply I81_.drewN | apply I81_.drew | apply I81_.set_1 | refine I81_.far ?_ NB0_248.out _) | exact HI0.out))
     (case side2 => repeat (first | (with_reducible first | exact HB.out | apply eA_ | apply pN_ | apply eD_ | refine eS_ ?_ (I81_.ge HI0.out) | refine eS_ ?_ GE248.out) | exact HB.out))
     rintro e w16 ⟨rfl, hi, hb, hk⟩
     refine ⟨_, rfl, ?_⟩
     have n0_ := Az_.mk (KeepBut.blk hk (g' := gb248) (o := .cells #[.int .i64 0, .int .i64 0, .int .i64 0, .int .i64 0, .int .i64 0, .int .i64 0, .int .i64 0, .int .i64 0, .int .i64 0] 89 (0, 0)) (by (with_reducible repeat (first | refine bN_ ?_ _ | refine bD_ ?_ | refine bA_ ?_ _)); exact BK248.out) NB248_0.out (by simp))
     have n1_ := Az_.mk (KeepBut.trans (by repeat (first | (with_reducible first | exact HK.out | apply KeepBut.set_ | apply kN_ | apply kD_ | apply kA_ | refine kF_ ?_ GW248.out _) | exact HK.out)) hk (.inl rfl))
     have n2_ := Az_.mk (hb)
     have n3_ := Az_.mk (hi)
     have z_HO253 := fun (h0_ : b 5 = true) => (show Kd.R k26 26 w16 w.heap.size (fun _ => True) v252 y251 from by first | exact (Kd.R_mono (Kd.R_keep (I81_.apart (show I81_ w0 _ g s0_0 t250 from by repeat (first | (with_reducible first | exact HI0.out | apply I81_.alloc | apply I81_.drewN | apply I81_.drew | apply I81_.set_1 | refine I81_.far ?_ NB0_248.out _) | exact HI0.out)) (by (with_reducible repeat (first | apply Kd.R_alloc | apply Kd.R_drewN | apply Kd.R_drew)); exact (Q_HO253 h0_)) (by decide)) hk (fun _ h => h.2)) (fun _ h => h.1)) | exact Kd.R_mono (Kd.R_mono (Kd.R_keep (I81_.apart (show I81_ w0 _ g s0_0 t250 from by repeat (first | (with_reducible first | exact HI0.out | apply I81_.alloc | apply I81_.drewN | apply I81_.drew | apply I81_.set_1 | refine I81_.far ?_ NB0_248.out _) | exact HI0.out)) (by (with_reducible repeat (first | apply Kd.R_alloc | apply Kd.R_drewN | apply Kd.R_drew)); exact (Q_HO253 h0_)) (by decide)) hk (fun _ h => h.2)) (fun _ h => h.1)) (fun _ h_ => by first | trivial | exact h_ | exact h_.1))
     have z_BK268 := fun (h0_ : b 17 = true) (h1_ : b 18 = false) => (show w16.heap[gb268]? = some (.cells #[.int .i64 0, .int .i64 0, .int .i64 0, .int .i64 0, .int .i64 0, .int .i64 0, .int .i64 0, .int .i64 0, .int .i64 0] 89 (0, 0)) from by first | exact (KeepBut.blk hk (g' := gb268) (o := .cells #[.int .i64 0, .int .i64 0, .int .i64 0, .int .i64 0, .int .i64 0, .int .i64 0, .int .i64 0, .int .i64 0, .int .i64 0] 89 (0, 0)) (by (with_reducible repeat (first | refine bN_ ?_ _ | refine bD_ ?_ | refine bA_ ?_ _)); exact (Q_BK268 h0_ h1_)) (Q_NB268_0 h0_) (by simp)))
     clear BK248
     clear HK
     clear HB
     clear HI0
     have BK248 := n0_
     have HK := n1_
     have HB := n2_
     have HI0 := n3_
     clear n0_ n1_ n2_ n3_
     (try clear hb)
     (try clear hb2)
     (try clear hk)
     (try clear hi)
     refine hK.out _ _ ⟨v252, adz_v252, gb268, m8_, m17_, (by rw [ha.out]; exact putSel_upk 5 hb_ rfl rfl rfl), (by (with_reducible repeat (first | refine bN_ ?_ _ | refine bD_ ?_ | refine bA_ ?_ _)); exact BK248.out), fun h0_ => absurd ((hon 1 (by kernel_rfl)).symm.trans h0_) (by decide), (by repeat (first | (with_reducible first | exact HK.out | apply KeepBut.set_ | apply kN_ | apply kD_ | apply kA_ | refine kF_ ?_ GW248.out _) | exact HK.out)), (by repeat (first | (with_reducible first | exact HB.out | apply eA_ | apply pN_ | apply eD_ | refine eS_ ?_ (I81_.ge HI0.out) | refine eS_ ?_ GE248.out) | exact HB.out)), fun _ h1_ => absurd ((up_self b 7).symm.trans h1_) (by decide), z_HO253, Q_HA_HO253, fun _ _ => (by repeat (first | (with_reducible first | exact HI0.out | apply I81_.alloc | apply I81_.drewN | apply I81_.drew | apply I81_.set_1 | refine I81_.far ?_ NB0_248.out _) | exact HI0.out)), fun h0_ _ => absurd ((hoff 11 (by kernel_rfl)).symm.trans h0_) (by decide), fun h0_ => absurd ((hoff 13 (by kernel_rfl)).symm.trans h0_) (by decide), z_BK268, Q_GW268, Q_GE268, Q_NB0_268, Q_NB268_0, Q_NB248_268, Q_NB268_248, fun h0_ => absurd ((hoff 18 (by kernel_rfl)).symm.trans h0_) (by decide), fun h0_ => absurd ((hoff 8 (by kernel_rfl)).symm.trans h0_) (by decide), Q_X17_⟩
    refine steps_cons ?_ ?_
    ·rintro b a w' ⟨v252, adz_v252, gb268, m8_, m17_, ha, Q_BK248, Q_HI0, Q_HK, Q_HB, Q_HI0_e1, Q_HO253, Q_HA_HO253, Q_HI0_e7, Q_HI0_e11, Q_HI0_e13, Q_BK268, Q_GW268, Q_GE268, Q_NB0_268, Q_NB268_0, Q_NB248_268, Q_NB268_248, Q_BK268_e18, Q_X8_, Q_X17_⟩ hb_ hon hoff
     refine ⟨_, rfl, fun K hK => ?_⟩
     have e11 : a.tmps[11]? = some (v252) := by rw [ha]; exact putSel_on (e := (5, 11, v252)) 4 rfl rfl (hon 5 (by kernel_rfl)) rfl
     have e13 : a.tmps[13]? = some (.int .i64 t254) := by rw [ha]; exact putSel_on (e := (7, 13, .int .i64 t254)) 5 rfl rfl (hon 7 (by kernel_rfl)) rfl
     replace ha := Az_.mk ha
     have BK248 := Az_.mk Q_BK248
     have HK := Az_.mk Q_HK
     have HB := Az_.mk Q_HB
     have HO253 := Az_.mk (Q_HO253 (hon 5 (by kernel_rfl)))
     have HA_HO253 := Az_.mk (Q_HA_HO253 (hon 5 (by kernel_rfl)))
     obtain ⟨c_, hv_⟩ := HA_HO253.out
     rw [hv_] at e11
     refine value_ (w1 := w') (v := .pointer (some (adz_v252.add ((t254).toNat * 2)))) (by rfl) rfl ?_ ?_
     ·go_simp
      (try simp only [i64_w])
      try rfl
     refine hK.out _ _ ⟨v252, adz_v252, gb268, (.pointer (some (adz_v252.add ((t254).toNat * 2)))), m17_, (by rw [ha.out]; exact putSel_upk 6 hb_ rfl rfl rfl), Q_BK248, fun h0_ => absurd ((hon 1 (by kernel_rfl)).symm.trans h0_) (by decide), Q_HK, Q_HB, fun _ h1_ => absurd ((hon 7 (by kernel_rfl)).symm.trans h1_) (by decide), Q_HO253, Q_HA_HO253, Q_HI0_e7, Q_HI0_e11, Q_HI0_e13, Q_BK268, Q_GW268, Q_GE268, Q_NB0_268, Q_NB268_0, Q_NB248_268, Q_NB268_248, fun h0_ => absurd ((hoff 18 (by kernel_rfl)).symm.trans h0_) (by decide), fun _ => rfl, Q_X17_⟩
    refine steps_cons ?_ ?_
    ·rintro b a w' ⟨v252, adz_v252, gb268, m8_, m17_, ha, Q_BK248, Q_HI0, Q_HK, Q_HB, Q_HI0_e1, Q_HO253, Q_HA_HO253, Q_HI0_e7, Q_HI0_e11, Q_HI0_e13, Q_BK268, Q_GW268, Q_GE268, Q_NB0_268, Q_NB268_0, Q_NB248_268, Q_NB268_248, Q_BK268_e18, Q_X8_, Q_X17_⟩ hb_ hon hoff
     refine ⟨_, rfl, fun K hK => ?_⟩
     have e14 : a.tmps[14]? = some (m8_) := by rw [ha]; exact putSel_on (e := (8, 14, m8_)) 6 rfl rfl (hon 8 (by kernel_rfl)) rfl
     rw [Q_X8_ (hon 8 (by kernel_rfl))] at e14
     replace ha := Az_.mk ha
     have BK248 := Az_.mk Q_BK248
     have HK := Az_.mk Q_HK
     have HB := Az_.mk Q_HB
     have HO253 := Az_.mk (Q_HO253 (hon 5 (by kernel_rfl)))
     have HA_HO253 := Az_.mk (Q_HA_HO253 (hon 5 (by kernel_rfl)))
     obtain ⟨c_, hv_⟩ := HA_HO253.out
     have hF_ := HO253.out
     rw [hv_] at hF_
     obtain ⟨ad_, ea_, hx_, hx1_⟩ := at_T26 (Kd.R_reads' hF_).2.2 t254 (of_eq_true pi256) (of_eq_true qi256)
     cases ea_
     refine value_ (w1 := w') (v := .agg #[.int .i64 ((rd_T26 y251 t254).f0), .int .i64 ((rd_T26 y251 t254).f1)]) (by rfl) rfl ?_ ?_
     ·go_simp
      (try simp only [i64_w])
      try rfl
     refine hK.out _ _ ⟨v252, adz_v252, gb268, m8_, m17_, (by rw [ha.out]; exact putSel_upk 7 hb_ rfl rfl rfl), Q_BK248, fun h0_ => absurd ((hon 1 (by kernel_rfl)).symm.trans h0_) (by decide), Q_HK, Q_HB, fun _ h1_ => absurd ((hon 7 (by kernel_rfl)).symm.trans h1_) (by decide), Q_HO253, Q_HA_HO253, Q_HI0_e7, Q_HI0_e11, Q_HI0_e13, Q_BK268, Q_GW268, Q_GE268, Q_NB0_268, Q_NB268_0, Q_NB248_268, Q_NB268_248, fun h0_ => absurd ((hoff 18 (by kernel_rfl)).symm.trans h0_) (by decide), Q_X8_, Q_X17_⟩
    refine steps_cons ?_ ?_
    ·rintro b a w' ⟨v252, adz_v252, gb268, m8_, m17_, ha, Q_BK248, Q_HI0, Q_HK, Q_HB, Q_HI0_e1, Q_HO253, Q_HA_HO253, Q_HI0_e7, Q_HI0_e11, Q_HI0_e13, Q_BK268, Q_GW268, Q_GE268, Q_NB0_268, Q_NB268_0, Q_NB248_268, Q_NB268_248, Q_BK268_e18, Q_X8_, Q_X17_⟩ hb_ hon hoff
     refine ⟨_, rfl, fun K hK => ?_⟩
     have e16 : a.tmps[16]? = some (.pointer (some ⟨g, 0, none⟩)) := by rw [ha]; exact (putSel_off rfl).trans rfl
     replace ha := Az_.mk ha
     have BK248 := Az_.mk Q_BK248
     have HK := Az_.mk Q_HK
     have HB := Az_.mk Q_HB
     have HI0 := Az_.mk (Q_HI0_e7 (hon 7 (by kernel_rfl)) hb_)
     refine goes_ Try.func54 (by kernel_rfl) rfl #[.pointer (some ⟨g, 0, none⟩), .int .i64 99] (by rfl) rfl rfl (by first | (simp only [List.map_toArray, List.map_cons, List.map_nil, Act.eval, Array.getD_eq_getD_getElem?, Option.getD_some, e16]; done) | (simp only [List.map_toArray, List.map_cons, List.map_nil, Act.eval, Array.getD_eq_getD_getElem?, Option.getD_some, e16]; rfl)) ?_
     with_reducible refine (spec_l20Agg.calls k g s0_0 t255 99 t257 t258 t259 t260 t261 w0 _ ?side1 ?side2 A7.out).mono ?_
     (case side1 => repeat (first | (with_reducible first | exact HI0.out | apply I81_.alloc | apply I81_.drewN | apply I81_.drew | apply I81_.set_1 | refine I81_.far ?_ NB0_248.out _) | exact HI0.out))
     (case side2 => repeat (first | (with_reducible first | exact HB.out | apply eA_ | apply pN_ | apply eD_ | refine eS_ ?_ (I81_.ge HI0.out) | refine eS_ ?_ GE248.out) | exact HB.out))
     rintro e w17 ⟨rfl, hi, hb, hk⟩
     refine ⟨_, rfl, ?_⟩
     have n0_ := Az_.mk (KeepBut.blk hk (g' := gb248) (o := .cells #[.int .i64 0, .int .i64 0, .int .i64 0, .int .i64 0, .int .i64 0, .int .i64 0, .int .i64 0, .int .i64 0, .int .i64 0] 89 (0, 0)) (by (with_reducible repeat (first | refine bN_ ?_ _ | refine bD_ ?_ | refine bA_ ?_ _)); exact BK248.out) NB248_0.out (by simp))
     have n1_ := Az_.mk (KeepBut.trans (by repeat (first | (with_reducible first | exact HK.out | apply KeepBut.set_ | apply kN_ | apply kD_ | apply kA_ | refine kF_ ?_ GW248.out _) | exact HK.out)) hk (.inl rfl))
     have n2_ := Az_.mk (hb)
     have n3_ := Az_.mk (hi)
     have z_HO253 := fun (h0_ : b 5 = true) => (show Kd.R k26 26 w17 w.heap.size (fun _ => True) v252 y251 from by first | exact (Kd.R_mono (Kd.R_keep (I81_.apart (show I81_ w0 _ g s0_0 t255 from by repeat (first | (with_reducible first | exact HI0.out | apply I81_.alloc | apply I81_.drewN | apply I81_.drew | apply I81_.set_1 | refine I81_.far ?_ NB0_248.out _) | exact HI0.out)) (by (with_reducible repeat (first | apply Kd.R_alloc | apply Kd.R_drewN | apply Kd.R_drew)); exact (Q_HO253 h0_)) (by decide)) hk (fun _ h => h.2)) (fun _ h => h.1)) | exact Kd.R_mono (Kd.R_mono (Kd.R_keep (I81_.apart (show I81_ w0 _ g s0_0 t255 from by repeat (first | (with_reducible first | exact HI0.out | apply I81_.alloc | apply I81_.drewN | apply I81_.drew | apply I81_.set_1 | refine I81_.far ?_ NB0_248.out _) | exact HI0.out)) (by (with_reducible repeat (first | apply Kd.R_alloc | apply Kd.R_drewN | apply Kd.R_drew)); exact (Q_HO253 h0_)) (by decide)) hk (fun _ h => h.2)) (fun _ h => h.1)) (fun _ h_ => by first | trivial | exact h_ | exact h_.1))
     have z_BK268 := fun (h0_ : b 17 = true) (h1_ : b 18 = false) => (show w17.heap[gb268]? = some (.cells #[.int .i64 0, .int .i64 0, .int .i64 0, .int .i64 0, .int .i64 0, .int .i64 0, .int .i64 0, .int .i64 0, .int .i64 0] 89 (0, 0)) from by first | exact (KeepBut.blk hk (g' := gb268) (o := .cells #[.int .i64 0, .int .i64 0, .int .i64 0, .int .i64 0, .int .i64 0, .int .i64 0, .int .i64 0, .int .i64 0, .int .i64 0] 89 (0, 0)) (by (with_reducible repeat (first | refine bN_ ?_ _ | refine bD_ ?_ | refine bA_ ?_ _)); exact (Q_BK268 h0_ h1_)) (Q_NB268_0 h0_) (by simp)))
     clear BK248
     clear HK
     clear HB
     clear HI0
     have BK248 := n0_
     have HK := n1_
     have HB := n2_
     have HI0 := n3_
     clear n0_ n1_ n2_ n3_
     (try clear hb)
     (try clear hb2)
     (try clear hk)
     (try clear hi)
     refine hK.out _ _ ⟨v252, adz_v252, gb268, m8_, m17_, (by rw [ha.out]; exact putSel_upk 8 hb_ rfl rfl rfl), (by (with_reducible repeat (first | refine bN_ ?_ _ | refine bD_ ?_ | refine bA_ ?_ _)); exact BK248.out), fun h0_ => absurd ((hon 1 (by kernel_rfl)).symm.trans h0_) (by decide), (by repeat (first | (with_reducible first | exact HK.out | apply KeepBut.set_ | apply kN_ | apply kD_ | apply kA_ | refine kF_ ?_ GW248.out _) | exact HK.out)), (by repeat (first | (with_reducible first | exact HB.out | apply eA_ | apply pN_ | apply eD_ | refine eS_ ?_ (I81_.ge HI0.out) | refine eS_ ?_ GE248.out) | exact HB.out)), fun _ h1_ => absurd ((hon 7 (by kernel_rfl)).symm.trans h1_) (by decide), z_HO253, Q_HA_HO253, fun _ h1_ => absurd ((up_self b 11).symm.trans h1_) (by decide), fun _ _ => (by repeat (first | (with_reducible first | exact HI0.out | apply I81_.alloc | apply I81_.drewN | apply I81_.drew | apply I81_.set_1 | refine I81_.far ?_ NB0_248.out _) | exact HI0.out)), fun h0_ => absurd ((hoff 13 (by kernel_rfl)).symm.trans h0_) (by decide), z_BK268, Q_GW268, Q_GE268, Q_NB0_268, Q_NB268_0, Q_NB248_268, Q_NB268_248, fun h0_ => absurd ((hoff 18 (by kernel_rfl)).symm.trans h0_) (by decide), Q_X8_, Q_X17_⟩
    refine steps_cons ?_ ?_
    ·rintro b a w' ⟨v252, adz_v252, gb268, m8_, m17_, ha, Q_BK248, Q_HI0, Q_HK, Q_HB, Q_HI0_e1, Q_HO253, Q_HA_HO253, Q_HI0_e7, Q_HI0_e11, Q_HI0_e13, Q_BK268, Q_GW268, Q_GE268, Q_NB0_268, Q_NB268_0, Q_NB248_268, Q_NB268_248, Q_BK268_e18, Q_X8_, Q_X17_⟩ hb_ hon hoff
     refine ⟨_, rfl, fun K hK => ?_⟩
     have e18 : a.tmps[18]? = some (.pointer (some ⟨g, 0, none⟩)) := by rw [ha]; exact (putSel_off rfl).trans rfl
     replace ha := Az_.mk ha
     have BK248 := Az_.mk Q_BK248
     have HK := Az_.mk Q_HK
     have HB := Az_.mk Q_HB
     have HI0 := Az_.mk (Q_HI0_e11 (hon 11 (by kernel_rfl)) hb_)
     refine goes_ Try.func53 (by kernel_rfl) rfl #[.pointer (some ⟨g, 0, none⟩), .int .i64 19] (by rfl) rfl rfl (by first | (simp only [List.map_toArray, List.map_cons, List.map_nil, Act.eval, Array.getD_eq_getD_getElem?, Option.getD_some, e18]; done) | (simp only [List.map_toArray, List.map_cons, List.map_nil, Act.eval, Array.getD_eq_getD_getElem?, Option.getD_some, e18]; rfl)) ?_
     with_reducible refine (spec_l20Rd_pick.calls k g s0_0 t261 19 t262 t263 w0 _ ?side1 ?side2 A8.out).mono ?_
     (case side1 => repeat (first | (with_reducible first | exact HI0.out | apply I81_.alloc | apply I81_.drewN | apply I81_.drew | apply I81_.set_1 | refine I81_.far ?_ NB0_248.out _) | exact HI0.out))
     (case side2 => repeat (first | (with_reducible first | exact HB.out | apply eA_ | apply pN_ | apply eD_ | refine eS_ ?_ (I81_.ge HI0.out) | refine eS_ ?_ GE248.out) | exact HB.out))
     rintro e w18 ⟨rfl, hi, hb, hk⟩
     refine ⟨_, rfl, ?_⟩
     have n0_ := Az_.mk (KeepBut.blk hk (g' := gb248) (o := .cells #[.int .i64 0, .int .i64 0, .int .i64 0, .int .i64 0, .int .i64 0, .int .i64 0, .int .i64 0, .int .i64 0, .int .i64 0] 89 (0, 0)) (by (with_reducible repeat (first | refine bN_ ?_ _ | refine bD_ ?_ | refine bA_ ?_ _)); exact BK248.out) NB248_0.out (by simp))
     have n1_ := Az_.mk (KeepBut.trans (by repeat (first | (with_reducible first | exact HK.out | apply KeepBut.set_ | apply kN_ | apply kD_ | apply kA_ | refine kF_ ?_ GW248.out _) | exact HK.out)) hk (.inl rfl))
     have n2_ := Az_.mk (hb)
     have n3_ := Az_.mk (hi)
     have z_HO253 := fun (h0_ : b 5 = true) => (show Kd.R k26 26 w18 w.heap.size (fun _ => True) v252 y251 from by first | exact (Kd.R_mono (Kd.R_keep (I81_.apart (show I81_ w0 _ g s0_0 t261 from by repeat (first | (with_reducible first | exact HI0.out | apply I81_.alloc | apply I81_.drewN | apply I81_.drew | apply I81_.set_1 | refine I81_.far ?_ NB0_248.out _) | exact HI0.out)) (by (with_reducible repeat (first | apply Kd.R_alloc | apply Kd.R_drewN | apply Kd.R_drew)); exact (Q_HO253 h0_)) (by decide)) hk (fun _ h => h.2)) (fun _ h => h.1)) | exact Kd.R_mono (Kd.R_mono (Kd.R_keep (I81_.apart (show I81_ w0 _ g s0_0 t261 from by repeat (first | (with_reducible first | exact HI0.out | apply I81_.alloc | apply I81_.drewN | apply I81_.drew | apply I81_.set_1 | refine I81_.far ?_ NB0_248.out _) | exact HI0.out)) (by (with_reducible repeat (first | apply Kd.R_alloc | apply Kd.R_drewN | apply Kd.R_drew)); exact (Q_HO253 h0_)) (by decide)) hk (fun _ h => h.2)) (fun _ h => h.1)) (fun _ h_ => by first | trivial | exact h_ | exact h_.1))
     have z_BK268 := fun (h0_ : b 17 = true) (h1_ : b 18 = false) => (show w18.heap[gb268]? = some (.cells #[.int .i64 0, .int .i64 0, .int .i64 0, .int .i64 0, .int .i64 0, .int .i64 0, .int .i64 0, .int .i64 0, .int .i64 0] 89 (0, 0)) from by first | exact (KeepBut.blk hk (g' := gb268) (o := .cells #[.int .i64 0, .int .i64 0, .int .i64 0, .int .i64 0, .int .i64 0, .int .i64 0, .int .i64 0, .int .i64 0, .int .i64 0] 89 (0, 0)) (by (with_reducible repeat (first | refine bN_ ?_ _ | refine bD_ ?_ | refine bA_ ?_ _)); exact (Q_BK268 h0_ h1_)) (Q_NB268_0 h0_) (by simp)))
     clear BK248
     clear HK
     clear HB
     clear HI0
     have BK248 := n0_
     have HK := n1_
     have HB := n2_
     have HI0 := n3_
     clear n0_ n1_ n2_ n3_
     (try clear hb)
     (try clear hb2)
     (try clear hk)
     (try clear hi)
     refine hK.out _ _ ⟨v252, adz_v252, gb268, m8_, m17_, (by rw [ha.out]; exact putSel_upk 9 hb_ rfl rfl rfl), (by (with_reducible repeat (first | refine bN_ ?_ _ | refine bD_ ?_ | refine bA_ ?_ _)); exact BK248.out), fun h0_ => absurd ((hon 1 (by kernel_rfl)).symm.trans h0_) (by decide), (by repeat (first | (with_reducible first | exact HK.out | apply KeepBut.set_ | apply kN_ | apply kD_ | apply kA_ | refine kF_ ?_ GW248.out _) | exact HK.out)), (by repeat (first | (with_reducible first | exact HB.out | apply eA_ | apply pN_ | apply eD_ | refine eS_ ?_ (I81_.ge HI0.out) | refine eS_ ?_ GE248.out) | exact HB.out)), fun _ h1_ => absurd ((hon 7 (by kernel_rfl)).symm.trans h1_) (by decide), z_HO253, Q_HA_HO253, fun _ h1_ => absurd ((hon 11 (by kernel_rfl)).symm.trans h1_) (by decide), fun _ h1_ => absurd ((up_self b 13).symm.trans h1_) (by decide), fun _ => (by repeat (first | (with_reducible first | exact HI0.out | apply I81_.alloc | apply I81_.drewN | apply I81_.drew | apply I81_.set_1 | refine I81_.far ?_ NB0_248.out _) | exact HI0.out)), z_BK268, Q_GW268, Q_GE268, Q_NB0_268, Q_NB268_0, Q_NB248_268, Q_NB268_248, fun h0_ => absurd ((hoff 18 (by kernel_rfl)).symm.trans h0_) (by decide), Q_X8_, Q_X17_⟩
    refine steps_cons ?_ ?_
    ·rintro b a w' ⟨v252, adz_v252, gb268, m8_, m17_, ha, Q_BK248, Q_HI0, Q_HK, Q_HB, Q_HI0_e1, Q_HO253, Q_HA_HO253, Q_HI0_e7, Q_HI0_e11, Q_HI0_e13, Q_BK268, Q_GW268, Q_GE268, Q_NB0_268, Q_NB268_0, Q_NB248_268, Q_NB268_248, Q_BK268_e18, Q_X8_, Q_X17_⟩ hb_ hon hoff
     refine ⟨_, rfl, fun K hK => ?_⟩
     have e19 : a.tmps[19]? = some (.int .i64 t262) := by rw [ha]; exact putSel_on (e := (13, 19, .int .i64 t262)) 9 rfl rfl (hon 13 (by kernel_rfl)) rfl
     replace ha := Az_.mk ha
     have BK248 := Az_.mk Q_BK248
     have HK := Az_.mk Q_HK
     have HB := Az_.mk Q_HB
     have HI0 := Az_.mk (Q_HI0_e13 (hon 13 (by kernel_rfl)))
     refine value_ (w1 := w') (v := .int .i64 (wrap64 (t262 - 9))) (by rfl) rfl ?_ ?_
     ·go_simp
      (try simp only [i64_w])
      try rfl
     refine hK.out _ _ ⟨v252, adz_v252, gb268, m8_, m17_, (by rw [ha.out]; exact putSel_upk 10 hb_ rfl rfl rfl), Q_BK248, fun h0_ => absurd ((hon 1 (by kernel_rfl)).symm.trans h0_) (by decide), Q_HK, Q_HB, fun _ h1_ => absurd ((hon 7 (by kernel_rfl)).symm.trans h1_) (by decide), Q_HO253, Q_HA_HO253, fun _ h1_ => absurd ((hon 11 (by kernel_rfl)).symm.trans h1_) (by decide), fun _ h1_ => absurd ((hon 13 (by kernel_rfl)).symm.trans h1_) (by decide), Q_HI0_e13, Q_BK268, Q_GW268, Q_GE268, Q_NB0_268, Q_NB268_0, Q_NB248_268, Q_NB268_248, fun h0_ => absurd ((hoff 18 (by kernel_rfl)).symm.trans h0_) (by decide), Q_X8_, Q_X17_⟩
    refine steps_cons ?_ ?_
    ·rintro b a w' ⟨v252, adz_v252, gb268, m8_, m17_, ha, Q_BK248, Q_HI0, Q_HK, Q_HB, Q_HI0_e1, Q_HO253, Q_HA_HO253, Q_HI0_e7, Q_HI0_e11, Q_HI0_e13, Q_BK268, Q_GW268, Q_GE268, Q_NB0_268, Q_NB268_0, Q_NB248_268, Q_NB268_248, Q_BK268_e18, Q_X8_, Q_X17_⟩ hb_ hon hoff
     refine ⟨_, rfl, fun K hK => ?_⟩
     have e17 : a.tmps[17]? = some (.agg #[.int .i64 t257, .int .i64 t258, .int .i64 t259, .int .i64 t260]) := by rw [ha]; exact putSel_on (e := (11, 17, .agg #[.int .i64 t257, .int .i64 t258, .int .i64 t259, .int .i64 t260])) 8 rfl rfl (hon 11 (by kernel_rfl)) rfl
     have e20 : a.tmps[20]? = some (.int .i64 (wrap64 (t262 - 9))) := by rw [ha]; exact putSel_on (e := (14, 20, .int .i64 (wrap64 (t262 - 9)))) 10 rfl rfl (hon 14 (by kernel_rfl)) rfl
     replace ha := Az_.mk ha
     have BK248 := Az_.mk Q_BK248
     have HK := Az_.mk Q_HK
     have HB := Az_.mk Q_HB
     have HI0 := Az_.mk (Q_HI0_e13 (hon 13 (by kernel_rfl)))
     refine goes_ Try.func63 (by kernel_rfl) rfl #[.agg #[.int .i64 t257, .int .i64 t258, .int .i64 t259, .int .i64 t260], .int .i64 (wrap64 (t262 - 9))] (by rfl) rfl rfl (by first | (simp only [List.map_toArray, List.map_cons, List.map_nil, Act.eval, Array.getD_eq_getD_getElem?, Option.getD_some, e17, e20]; done) | (simp only [List.map_toArray, List.map_cons, List.map_nil, Act.eval, Array.getD_eq_getD_getElem?, Option.getD_some, e17, e20]; rfl)) ?_
     with_reducible refine (spec_AggAdd.calls t257 t258 t259 t260 (wrap64 (t262 - 9)) t264 t265 t266 t267 _ A9.out).mono ?_
     rintro e w19 ⟨rfl, hb⟩
     refine ⟨_, rfl, ?_⟩
     have n0_ := Az_.mk (I81_.below (by repeat (first | (with_reducible first | exact HI0.out | apply I81_.alloc | apply I81_.drewN | apply I81_.drew | apply I81_.set_1 | refine I81_.far ?_ NB0_248.out _) | exact HI0.out)) hb)
     have n1_ := Az_.mk (bB_ (g := gb248) (o := .cells #[.int .i64 0, .int .i64 0, .int .i64 0, .int .i64 0, .int .i64 0, .int .i64 0, .int .i64 0, .int .i64 0, .int .i64 0] 89 (0, 0)) (by (with_reducible repeat (first | refine bN_ ?_ _ | refine bD_ ?_ | refine bA_ ?_ _)); exact BK248.out) hb)
     have n2_ := Az_.mk (KeepBut.trans (by repeat (first | (with_reducible first | exact HK.out | apply KeepBut.set_ | apply kN_ | apply kD_ | apply kA_ | refine kF_ ?_ GW248.out _) | exact HK.out)) (KeepBut.of_below hb g none) (.inl rfl))
     have n3_ := Az_.mk (below_step (by repeat (first | (with_reducible first | exact HB.out | apply eA_ | apply pN_ | apply eD_ | refine eS_ ?_ (I81_.ge HI0.out) | refine eS_ ?_ GE248.out) | exact HB.out)) hb)
     have z_HO253 := fun (h0_ : b 5 = true) => (show Kd.R k26 26 w19 w.heap.size (fun _ => True) v252 y251 from by first | exact (Kd.R_below (by (with_reducible repeat (first | apply Kd.R_alloc | apply Kd.R_drewN | apply Kd.R_drew)); exact (Q_HO253 h0_)) hb) | exact Kd.R_mono (Kd.R_below (by (with_reducible repeat (first | apply Kd.R_alloc | apply Kd.R_drewN | apply Kd.R_drew)); exact (Q_HO253 h0_)) hb) (fun _ h_ => by first | trivial | exact h_ | exact h_.1))
     have z_BK268 := fun (h0_ : b 17 = true) (h1_ : b 18 = false) => (show w19.heap[gb268]? = some (.cells #[.int .i64 0, .int .i64 0, .int .i64 0, .int .i64 0, .int .i64 0, .int .i64 0, .int .i64 0, .int .i64 0, .int .i64 0] 89 (0, 0)) from by first | exact (bB_ (g := gb268) (o := .cells #[.int .i64 0, .int .i64 0, .int .i64 0, .int .i64 0, .int .i64 0, .int .i64 0, .int .i64 0, .int .i64 0, .int .i64 0] 89 (0, 0)) (by (with_reducible repeat (first | refine bN_ ?_ _ | refine bD_ ?_ | refine bA_ ?_ _)); exact (Q_BK268 h0_ h1_)) hb))
     clear HI0
     clear BK248
     clear HK
     clear HB
     have HI0 := n0_
     have BK248 := n1_
     have HK := n2_
     have HB := n3_
     clear n0_ n1_ n2_ n3_
     (try clear hb)
     (try clear hb2)
     (try clear hk)
     (try clear hi)
     refine hK.out _ _ ⟨v252, adz_v252, gb268, m8_, m17_, (by rw [ha.out]; exact putSel_upk 11 hb_ rfl rfl rfl), (by (with_reducible repeat (first | refine bN_ ?_ _ | refine bD_ ?_ | refine bA_ ?_ _)); exact BK248.out), fun h0_ => absurd ((hon 1 (by kernel_rfl)).symm.trans h0_) (by decide), (by repeat (first | (with_reducible first | exact HK.out | apply KeepBut.set_ | apply kN_ | apply kD_ | apply kA_ | refine kF_ ?_ GW248.out _) | exact HK.out)), (by repeat (first | (with_reducible first | exact HB.out | apply eA_ | apply pN_ | apply eD_ | refine eS_ ?_ (I81_.ge HI0.out) | refine eS_ ?_ GE248.out) | exact HB.out)), fun _ h1_ => absurd ((hon 7 (by kernel_rfl)).symm.trans h1_) (by decide), z_HO253, Q_HA_HO253, fun _ h1_ => absurd ((hon 11 (by kernel_rfl)).symm.trans h1_) (by decide), fun _ h1_ => absurd ((hon 13 (by kernel_rfl)).symm.trans h1_) (by decide), fun _ => (by repeat (first | (with_reducible first | exact HI0.out | apply I81_.alloc | apply I81_.drewN | apply I81_.drew | apply I81_.set_1 | refine I81_.far ?_ NB0_248.out _) | exact HI0.out)), z_BK268, Q_GW268, Q_GE268, Q_NB0_268, Q_NB268_0, Q_NB248_268, Q_NB268_248, fun h0_ => absurd ((hoff 18 (by kernel_rfl)).symm.trans h0_) (by decide), Q_X8_, Q_X17_⟩
    refine steps_cons ?_ ?_
    ·rintro b a w' ⟨v252, adz_v252, gb268, m8_, m17_, ha, Q_BK248, Q_HI0, Q_HK, Q_HB, Q_HI0_e1, Q_HO253, Q_HA_HO253, Q_HI0_e7, Q_HI0_e11, Q_HI0_e13, Q_BK268, Q_GW268, Q_GE268, Q_NB0_268, Q_NB268_0, Q_NB248_268, Q_NB268_248, Q_BK268_e18, Q_X8_, Q_X17_⟩ hb_ hon hoff
     refine ⟨_, rfl, fun K hK => ?_⟩
     have e7 : a.tmps[7]? = some (.int .i64 t249) := by rw [ha]; exact putSel_on (e := (1, 7, .int .i64 t249)) 0 rfl rfl (hon 1 (by kernel_rfl)) rfl
     have e15 : a.tmps[15]? = some (.agg #[.int .i64 ((rd_T26 y251 t254).f0), .int .i64 ((rd_T26 y251 t254).f1)]) := by rw [ha]; exact putSel_on (e := (9, 15, .agg #[.int .i64 ((rd_T26 y251 t254).f0), .int .i64 ((rd_T26 y251 t254).f1)])) 7 rfl rfl (hon 9 (by kernel_rfl)) rfl
     have e21 : a.tmps[21]? = some (.agg #[.int .i64 t264, .int .i64 t265, .int .i64 t266, .int .i64 t267]) := by rw [ha]; exact putSel_on (e := (15, 21, .agg #[.int .i64 t264, .int .i64 t265, .int .i64 t266, .int .i64 t267])) 11 rfl rfl (hon 15 (by kernel_rfl)) rfl
     replace ha := Az_.mk ha
     have BK248 := Az_.mk Q_BK248
     have HK := Az_.mk Q_HK
     have HB := Az_.mk Q_HB
     have HO253 := Az_.mk (Q_HO253 (hon 5 (by kernel_rfl)))
     have HA_HO253 := Az_.mk (Q_HA_HO253 (hon 5 (by kernel_rfl)))
     have HI0 := Az_.mk (Q_HI0_e13 (hon 13 (by kernel_rfl)))
     refine value_ (w1 := w') (v := .agg #[.int .i64 t249, .int .i64 ((rd_T26 y251 t254).f0), .int .i64 ((rd_T26 y251 t254).f1), .int .i64 0, .int .i64 1, .int .i64 t264, .int .i64 t265, .int .i64 t266, .int .i64 t267]) (by rfl) rfl ?_ ?_
     ·go_simp
      (try simp only [i64_w])
      try rfl
     refine hK.out _ _ ⟨v252, adz_v252, gb268, m8_, m17_, (by rw [ha.out]; exact putSel_upk 12 hb_ rfl rfl rfl), Q_BK248, fun h0_ => absurd ((hon 1 (by kernel_rfl)).symm.trans h0_) (by decide), Q_HK, Q_HB, fun _ h1_ => absurd ((hon 7 (by kernel_rfl)).symm.trans h1_) (by decide), Q_HO253, Q_HA_HO253, fun _ h1_ => absurd ((hon 11 (by kernel_rfl)).symm.trans h1_) (by decide), fun _ h1_ => absurd ((hon 13 (by kernel_rfl)).symm.trans h1_) (by decide), Q_HI0_e13, Q_BK268, Q_GW268, Q_GE268, Q_NB0_268, Q_NB268_0, Q_NB248_268, Q_NB268_248, fun h0_ => absurd ((hoff 18 (by kernel_rfl)).symm.trans h0_) (by decide), Q_X8_, Q_X17_⟩
    refine steps_cons ?_ ?_
    ·rintro b a w' ⟨v252, adz_v252, gb268, m8_, m17_, ha, Q_BK248, Q_HI0, Q_HK, Q_HB, Q_HI0_e1, Q_HO253, Q_HA_HO253, Q_HI0_e7, Q_HI0_e11, Q_HI0_e13, Q_BK268, Q_GW268, Q_GE268, Q_NB0_268, Q_NB268_0, Q_NB248_268, Q_NB268_248, Q_BK268_e18, Q_X8_, Q_X17_⟩ hb_ hon hoff
     refine ⟨_, rfl, fun K hK => ?_⟩
     replace ha := Az_.mk ha
     have BK248 := Az_.mk Q_BK248
     have HK := Az_.mk Q_HK
     have HB := Az_.mk Q_HB
     refine box_step ?hg (N := 5) ?hd (cs := #[.int .i64 0, .int .i64 0, .int .i64 0, .int .i64 0, .int .i64 0, .int .i64 0, .int .i64 0, .int .i64 0, .int .i64 0]) (t := 89) ?hr ?_; (case hd => rfl); (case hg => rfl); (case hr => first | (go_simp; done) | (go_simp; rfl))
     intro gb268 hg w14 hbox hb
     have n1_ := Az_.mk (bB_ (g := gb248) (o := .cells #[.int .i64 0, .int .i64 0, .int .i64 0, .int .i64 0, .int .i64 0, .int .i64 0, .int .i64 0, .int .i64 0, .int .i64 0] 89 (0, 0)) (by (with_reducible repeat (first | refine bN_ ?_ _ | refine bD_ ?_ | refine bA_ ?_ _)); exact BK248.out) hb)
     have n2_ := Az_.mk (KeepBut.trans (by repeat (first | (with_reducible first | exact HK.out | apply KeepBut.set_ | apply kN_ | apply kD_ | apply kA_ | refine kF_ ?_ GW248.out _) | exact HK.out)) (KeepBut.of_below hb g none) (.inl rfl))
     have n3_ := Az_.mk (below_step (by repeat (first | (with_reducible first | exact HB.out | apply eA_ | apply pN_ | apply eD_ | refine eS_ ?_ GE248.out) | exact HB.out)) hb)
     have n4_ := Az_.mk (hbox)
     have n5_ := Az_.mk ((by rw [hg]; exact (keep_size (w := w) (g := g) (row := none) (by repeat (first | (with_reducible first | exact HK.out | apply KeepBut.set_ | apply kN_ | apply kD_ | apply kA_ | refine kF_ ?_ GW248.out _) | exact HK.out))) : w.heap.size ≤ gb268))
     have n6_ := Az_.mk ((Nat.le_trans HW0.out (by rw [hg]; exact (keep_size (w := w) (g := g) (row := none) (by repeat (first | (with_reducible first | exact HK.out | apply KeepBut.set_ | apply kN_ | apply kD_ | apply kA_ | refine kF_ ?_ GW248.out _) | exact HK.out))) : w.heap.size ≤ gb268) : w0.heap.size ≤ gb268))
     have n7_ := Az_.mk ((by rw [hg]; exact Nat.ne_of_lt (blk_lt (g := gb248) (o := .cells #[.int .i64 0, .int .i64 0, .int .i64 0, .int .i64 0, .int .i64 0, .int .i64 0, .int .i64 0, .int .i64 0, .int .i64 0] 89 (0, 0)) (by (with_reducible repeat (first | refine bN_ ?_ _ | refine bD_ ?_ | refine bA_ ?_ _)); exact BK248.out)) : gb248 ≠ gb268))
     have n8_ := Az_.mk ((by rw [hg]; exact Nat.ne_of_gt (blk_lt (g := gb248) (o := .cells #[.int .i64 0, .int .i64 0, .int .i64 0, .int .i64 0, .int .i64 0, .int .i64 0, .int .i64 0, .int .i64 0, .int .i64 0] 89 (0, 0)) (by (with_reducible repeat (first | refine bN_ ?_ _ | refine bD_ ?_ | refine bA_ ?_ _)); exact BK248.out)) : gb268 ≠ gb248))
     have n9_ := Az_.mk ((by rw [hg]; exact Nat.ne_of_lt (Nat.lt_of_lt_of_le HG0.out (keep_size (w := w) (g := g) (row := none) (by repeat (first | (with_reducible first | exact HK.out | apply KeepBut.set_ | apply kN_ | apply kD_ | apply kA_ | refine kF_ ?_ GW248.out _) | exact HK.out)))) : g ≠ gb268))
     have n10_ := Az_.mk ((by rw [hg]; exact Nat.ne_of_gt (Nat.lt_of_lt_of_le HG0.out (keep_size (w := w) (g := g) (row := none) (by repeat (first | (with_reducible first | exact HK.out | apply KeepBut.set_ | apply kN_ | apply kD_ | apply kA_ | refine kF_ ?_ GW248.out _) | exact HK.out)))) : gb268 ≠ g))
     have z_HI0 := fun (h0_ : b 1 = false) => (show I81_ w0 w14 g s0_0 s0_1 from by first | exact (I81_.below (by repeat (first | (with_reducible first | exact (Q_HI0 h0_) | apply I81_.alloc | apply I81_.drewN | apply I81_.drew | apply I81_.set_1 | refine I81_.far ?_ NB0_248.out _) | exact (Q_HI0 h0_))) hb))
     have z_HI0_e1 := fun (h0_ : b 1 = true) (h1_ : b 7 = false) => (show I81_ w0 w14 g s0_0 t250 from by first | exact (I81_.below (by repeat (first | (with_reducible first | exact (Q_HI0_e1 h0_ h1_) | apply I81_.alloc | apply I81_.drewN | apply I81_.drew | apply I81_.set_1 | refine I81_.far ?_ NB0_248.out _) | exact (Q_HI0_e1 h0_ h1_))) hb))
     have z_HO253 := fun (h0_ : b 5 = true) => (show Kd.R k26 26 w14 w.heap.size (fun _ => True) v252 y251 from by first | exact (Kd.R_below (by (with_reducible repeat (first | apply Kd.R_alloc | apply Kd.R_drewN | apply Kd.R_drew)); exact (Q_HO253 h0_)) hb) | exact Kd.R_mono (Kd.R_below (by (with_reducible repeat (first | apply Kd.R_alloc | apply Kd.R_drewN | apply Kd.R_drew)); exact (Q_HO253 h0_)) hb) (fun _ h_ => by first | trivial | exact h_ | exact h_.1))
     have z_HI0_e7 := fun (h0_ : b 7 = true) (h1_ : b 11 = false) => (show I81_ w0 w14 g s0_0 t255 from by first | exact (I81_.below (by repeat (first | (with_reducible first | exact (Q_HI0_e7 h0_ h1_) | apply I81_.alloc | apply I81_.drewN | apply I81_.drew | apply I81_.set_1 | refine I81_.far ?_ NB0_248.out _) | exact (Q_HI0_e7 h0_ h1_))) hb))
     have z_HI0_e11 := fun (h0_ : b 11 = true) (h1_ : b 13 = false) => (show I81_ w0 w14 g s0_0 t261 from by first | exact (I81_.below (by repeat (first | (with_reducible first | exact (Q_HI0_e11 h0_ h1_) | apply I81_.alloc | apply I81_.drewN | apply I81_.drew | apply I81_.set_1 | refine I81_.far ?_ NB0_248.out _) | exact (Q_HI0_e11 h0_ h1_))) hb))
     have z_HI0_e13 := fun (h0_ : b 13 = true) => (show I81_ w0 w14 g s0_0 t263 from by first | exact (I81_.below (by repeat (first | (with_reducible first | exact (Q_HI0_e13 h0_) | apply I81_.alloc | apply I81_.drewN | apply I81_.drew | apply I81_.set_1 | refine I81_.far ?_ NB0_248.out _) | exact (Q_HI0_e13 h0_))) hb))
     clear BK248
     clear HK
     clear HB
     have BK248 := n1_
     have HK := n2_
     have HB := n3_
     have BK268 := n4_
     have GW268 := n5_
     have GE268 := n6_
     have NB248_268 := n7_
     have NB268_248 := n8_
     have NB0_268 := n9_
     have NB268_0 := n10_
     clear n1_ n2_ n3_ n4_ n5_ n6_ n7_ n8_ n9_ n10_
     clear hb hbox hg
     refine hK.out _ _ ⟨v252, adz_v252, gb268, m8_, (.pointer (some ⟨gb268, 0, none⟩)), (by rw [ha.out]; exact putSel_upk 13 hb_ rfl rfl rfl), (by (with_reducible repeat (first | refine bN_ ?_ _ | refine bD_ ?_ | refine bA_ ?_ _)); exact BK248.out), z_HI0, (by repeat (first | (with_reducible first | exact HK.out | apply KeepBut.set_ | apply kN_ | apply kD_ | apply kA_ | refine kF_ ?_ GW248.out _ | refine kF_ ?_ GW268.out _) | exact HK.out)), (by repeat (first | (with_reducible first | exact HB.out | apply eA_ | apply pN_ | apply eD_ | refine eS_ ?_ GE248.out | refine eS_ ?_ GE268.out) | exact HB.out)), z_HI0_e1, z_HO253, Q_HA_HO253, z_HI0_e7, z_HI0_e11, z_HI0_e13, fun _ _ => (by (with_reducible repeat (first | refine bN_ ?_ _ | refine bD_ ?_ | refine bA_ ?_ _)); exact BK268.out), fun _ => GW268.out, fun _ => GE268.out, fun _ => NB0_268.out, fun _ => NB268_0.out, fun _ => NB248_268.out, fun _ => NB268_248.out, fun h0_ => absurd ((hoff 18 (by kernel_rfl)).symm.trans h0_) (by decide), Q_X8_, fun _ => rfl⟩
    refine steps_cons ?_ ?_
    ·rintro b a w' ⟨v252, adz_v252, gb268, m8_, m17_, ha, Q_BK248, Q_HI0, Q_HK, Q_HB, Q_HI0_e1, Q_HO253, Q_HA_HO253, Q_HI0_e7, Q_HI0_e11, Q_HI0_e13, Q_BK268, Q_GW268, Q_GE268, Q_NB0_268, Q_NB268_0, Q_NB248_268, Q_NB268_248, Q_BK268_e18, Q_X8_, Q_X17_⟩ hb_ hon hoff
     refine ⟨_, rfl, fun K hK => ?_⟩
     have e5 : a.tmps[5]? = some (m17_) := by rw [ha]; exact putSel_on (e := (17, 5, m17_)) 13 rfl rfl (hon 17 (by kernel_rfl)) rfl
     rw [Q_X17_ (hon 17 (by kernel_rfl))] at e5
     have e22 : a.tmps[22]? = some (.agg #[.int .i64 t249, .int .i64 ((rd_T26 y251 t254).f0), .int .i64 ((rd_T26 y251 t254).f1), .int .i64 0, .int .i64 1, .int .i64 t264, .int .i64 t265, .int .i64 t266, .int .i64 t267]) := by rw [ha]; exact putSel_on (e := (16, 22, .agg #[.int .i64 t249, .int .i64 ((rd_T26 y251 t254).f0), .int .i64 ((rd_T26 y251 t254).f1), .int .i64 0, .int .i64 1, .int .i64 t264, .int .i64 t265, .int .i64 t266, .int .i64 t267])) 12 rfl rfl (hon 16 (by kernel_rfl)) rfl
     replace ha := Az_.mk ha
     have BK248 := Az_.mk Q_BK248
     have HK := Az_.mk Q_HK
     have HB := Az_.mk Q_HB
     have HO253 := Az_.mk (Q_HO253 (hon 5 (by kernel_rfl)))
     have HA_HO253 := Az_.mk (Q_HA_HO253 (hon 5 (by kernel_rfl)))
     have HI0 := Az_.mk (Q_HI0_e13 (hon 13 (by kernel_rfl)))
     have BK268 := Az_.mk (Q_BK268 (hon 17 (by kernel_rfl)) hb_)
     have GW268 := Az_.mk (Q_GW268 (hon 17 (by kernel_rfl)))
     have GE268 := Az_.mk (Q_GE268 (hon 17 (by kernel_rfl)))
     have NB0_268 := Az_.mk (Q_NB0_268 (hon 17 (by kernel_rfl)))
     have NB268_0 := Az_.mk (Q_NB268_0 (hon 17 (by kernel_rfl)))
     have NB248_268 := Az_.mk (Q_NB248_268 (hon 17 (by kernel_rfl)))
     have NB268_248 := Az_.mk (Q_NB268_248 (hon 17 (by kernel_rfl)))
     obtain ⟨co24, eo24⟩ := HA_HO253.out
     clear HA_HO253
     subst eo24
     have hs25 : w'.cell? ⟨gb268, 0, none⟩ = some (.int .i64 0) := (bC_ BK268.out 0).trans rfl
     have hfs25 := bF_ BK268.out 0
     have hns25_0 := NB248_268.out
     have hms25_0 := NB268_248.out
     have hs26 : w'.cell? ⟨gb268, 1, none⟩ = some (.int .i64 0) := (bC_ BK268.out 1).trans rfl
     have hfs26 := bF_ BK268.out 1
     have hns26_0 := NB248_268.out
     have hms26_0 := NB268_248.out
     have hs27 : w'.cell? ⟨gb268, 2, none⟩ = some (.int .i64 0) := (bC_ BK268.out 2).trans rfl
     have hfs27 := bF_ BK268.out 2
     have hns27_0 := NB248_268.out
     have hms27_0 := NB268_248.out
     have hs28 : w'.cell? ⟨gb268, 3, none⟩ = some (.int .i64 0) := (bC_ BK268.out 3).trans rfl
     have hfs28 := bF_ BK268.out 3
     have hns28_0 := NB248_268.out
     have hms28_0 := NB268_248.out
     have hs29 : w'.cell? ⟨gb268, 4, none⟩ = some (.int .i64 0) := (bC_ BK268.out 4).trans rfl
     have hfs29 := bF_ BK268.out 4
     have hns29_0 := NB248_268.out
     have hms29_0 := NB268_248.out
     have hs30 : w'.cell? ⟨gb268, 5, none⟩ = some (.int .i64 0) := (bC_ BK268.out 5).trans rfl
     have hfs30 := bF_ BK268.out 5
     have hns30_0 := NB248_268.out
     have hms30_0 := NB268_248.out
     have hs31 : w'.cell? ⟨gb268, 6, none⟩ = some (.int .i64 0) := (bC_ BK268.out 6).trans rfl
     have hfs31 := bF_ BK268.out 6
     have hns31_0 := NB248_268.out
     have hms31_0 := NB268_248.out
     have hs32 : w'.cell? ⟨gb268, 7, none⟩ = some (.int .i64 0) := (bC_ BK268.out 7).trans rfl
     have hfs32 := bF_ BK268.out 7
     have hns32_0 := NB248_268.out
     have hms32_0 := NB268_248.out
     have hs33 : w'.cell? ⟨gb268, 8, none⟩ = some (.int .i64 0) := (bC_ BK268.out 8).trans rfl
     have hfs33 := bF_ BK268.out 8
     have hns33_0 := NB248_268.out
     have hms33_0 := NB268_248.out
     refine skip_ (w1 := ?_) (by rfl) rfl ?_ ?_
     rotate_left
     ·go_simp
      rfl
     refine hK.out _ _ ⟨.slice (some adz_v252) y251.length co24, adz_v252, gb268, m8_, m17_, (by rw [ha.out]; exact putSel_none (v := undef) rfl), (by (with_reducible repeat (first | refine bN_ ?_ _ | refine bD_ ?_ | refine bA_ ?_ _)); refine bR_ ?_ NB248_268.out _; (with_reducible repeat (first | refine bN_ ?_ _ | refine bD_ ?_ | refine bA_ ?_ _)); refine bR_ ?_ NB248_268.out _; (with_reducible repeat (first | refine bN_ ?_ _ | refine bD_ ?_ | refine bA_ ?_ _)); refine bR_ ?_ NB248_268.out _; (with_reducible repeat (first | refine bN_ ?_ _ | refine bD_ ?_ | refine bA_ ?_ _)); refine bR_ ?_ NB248_268.out _; (with_reducible repeat (first | refine bN_ ?_ _ | refine bD_ ?_ | refine bA_ ?_ _)); refine bR_ ?_ NB248_268.out _; (with_reducible repeat (first | refine bN_ ?_ _ | refine bD_ ?_ | refine bA_ ?_ _)); refine bR_ ?_ NB248_268.out _; (with_reducible repeat (first | refine bN_ ?_ _ | refine bD_ ?_ | refine bA_ ?_ _)); refine bR_ ?_ NB248_268.out _; (with_reducible repeat (first | refine bN_ ?_ _ | refine bD_ ?_ | refine bA_ ?_ _)); refine bR_ ?_ NB248_268.out _; (with_reducible repeat (first | refine bN_ ?_ _ | refine bD_ ?_ | refine bA_ ?_ _)); refine bR_ ?_ NB248_268.out _; (with_reducible repeat (first | refine bN_ ?_ _ | refine bD_ ?_ | refine bA_ ?_ _)); exact BK248.out), fun h0_ => absurd ((hon 1 (by kernel_rfl)).symm.trans h0_) (by decide), (by repeat (first | (with_reducible first | exact HK.out | apply KeepBut.set_ | apply kN_ | apply kD_ | apply kA_ | refine kF_ ?_ GW248.out _ | refine kF_ ?_ GW268.out _) | exact HK.out)), (by repeat (first | (with_reducible first | exact HB.out | apply eA_ | apply pN_ | apply eD_ | refine eS_ ?_ (I81_.ge HI0.out) | refine eS_ ?_ GE248.out | refine eS_ ?_ GE268.out) | exact HB.out)), fun _ h1_ => absurd ((hon 7 (by kernel_rfl)).symm.trans h1_) (by decide), fun _ => (by (with_reducible repeat (first | apply Kd.R_alloc | apply Kd.R_drewN | apply Kd.R_drew)); exact Kd.R_mono (Kd.R_far (p := ⟨gb268, 8, none⟩) (Kd.R_far (p := ⟨gb268, 7, none⟩) (Kd.R_far (p := ⟨gb268, 6, none⟩) (Kd.R_far (p := ⟨gb268, 5, none⟩) (Kd.R_far (p := ⟨gb268, 4, none⟩) (Kd.R_far (p := ⟨gb268, 3, none⟩) (Kd.R_far (p := ⟨gb268, 2, none⟩) (Kd.R_far (p := ⟨gb268, 1, none⟩) (Kd.R_far (p := ⟨gb268, 0, none⟩) (Kd.R_types HO253.out BK268.out (by decide)) (fun _ hk => hk.2) (.int .i64 t249)) (fun _ hk => hk.2) (.int .i64 ((rd_T26 y251 t254).f0))) (fun _ hk => hk.2) (.int .i64 ((rd_T26 y251 t254).f1))) (fun _ hk => hk.2) (.int .i64 0)) (fun _ hk => hk.2) (.int .i64 1)) (fun _ hk => hk.2) (.int .i64 t264)) (fun _ hk => hk.2) (.int .i64 t265)) (fun _ hk => hk.2) (.int .i64 t266)) (fun _ hk => hk.2) (.int .i64 t267)) (fun _ hk => trivial)), fun _ => ⟨_, rfl⟩, fun _ h1_ => absurd ((hon 11 (by kernel_rfl)).symm.trans h1_) (by decide), fun _ h1_ => absurd ((hon 13 (by kernel_rfl)).symm.trans h1_) (by decide), fun _ => (by repeat (first | (with_reducible first | exact HI0.out | apply I81_.alloc | apply I81_.drewN | apply I81_.drew | apply I81_.set_1 | refine I81_.far ?_ NB0_248.out _ | refine I81_.far ?_ NB0_268.out _) | exact HI0.out)), fun _ h1_ => absurd ((up_self b 18).symm.trans h1_) (by decide), fun _ => GW268.out, fun _ => GE268.out, fun _ => NB0_268.out, fun _ => NB268_0.out, fun _ => NB248_268.out, fun _ => NB268_248.out, fun _ => (by (with_reducible repeat (first | refine bN_ ?_ _ | refine bD_ ?_ | refine bA_ ?_ _)); refine bP_ (cs := #[.int .i64 t249, .int .i64 ((rd_T26 y251 t254).f0), .int .i64 ((rd_T26 y251 t254).f1), .int .i64 0, .int .i64 1, .int .i64 t264, .int .i64 t265, .int .i64 t266, .int .i64 0]) ?_ 8 _ rfl; (with_reducible repeat (first | refine bN_ ?_ _ | refine bD_ ?_ | refine bA_ ?_ _)); refine bP_ (cs := #[.int .i64 t249, .int .i64 ((rd_T26 y251 t254).f0), .int .i64 ((rd_T26 y251 t254).f1), .int .i64 0, .int .i64 1, .int .i64 t264, .int .i64 t265, .int .i64 0, .int .i64 0]) ?_ 7 _ rfl; (with_reducible repeat (first | refine bN_ ?_ _ | refine bD_ ?_ | refine bA_ ?_ _)); refine bP_ (cs := #[.int .i64 t249, .int .i64 ((rd_T26 y251 t254).f0), .int .i64 ((rd_T26 y251 t254).f1), .int .i64 0, .int .i64 1, .int .i64 t264, .int .i64 0, .int .i64 0, .int .i64 0]) ?_ 6 _ rfl; (with_reducible repeat (first | refine bN_ ?_ _ | refine bD_ ?_ | refine bA_ ?_ _)); refine bP_ (cs := #[.int .i64 t249, .int .i64 ((rd_T26 y251 t254).f0), .int .i64 ((rd_T26 y251 t254).f1), .int .i64 0, .int .i64 1, .int .i64 0, .int .i64 0, .int .i64 0, .int .i64 0]) ?_ 5 _ rfl; (with_reducible repeat (first | refine bN_ ?_ _ | refine bD_ ?_ | refine bA_ ?_ _)); refine bP_ (cs := #[.int .i64 t249, .int .i64 ((rd_T26 y251 t254).f0), .int .i64 ((rd_T26 y251 t254).f1), .int .i64 0, .int .i64 0, .int .i64 0, .int .i64 0, .int .i64 0, .int .i64 0]) ?_ 4 _ rfl; (with_reducible repeat (first | refine bN_ ?_ _ | refine bD_ ?_ | refine bA_ ?_ _)); refine bP_ (cs := #[.int .i64 t249, .int .i64 ((rd_T26 y251 t254).f0), .int .i64 ((rd_T26 y251 t254).f1), .int .i64 0, .int .i64 0, .int .i64 0, .int .i64 0, .int .i64 0, .int .i64 0]) ?_ 3 _ rfl; (with_reducible repeat (first | refine bN_ ?_ _ | refine bD_ ?_ | refine bA_ ?_ _)); refine bP_ (cs := #[.int .i64 t249, .int .i64 ((rd_T26 y251 t254).f0), .int .i64 0, .int .i64 0, .int .i64 0, .int .i64 0, .int .i64 0, .int .i64 0, .int .i64 0]) ?_ 2 _ rfl; (with_reducible repeat (first | refine bN_ ?_ _ | refine bD_ ?_ | refine bA_ ?_ _)); refine bP_ (cs := #[.int .i64 t249, .int .i64 0, .int .i64 0, .int .i64 0, .int .i64 0, .int .i64 0, .int .i64 0, .int .i64 0, .int .i64 0]) ?_ 1 _ rfl; (with_reducible repeat (first | refine bN_ ?_ _ | refine bD_ ?_ | refine bA_ ?_ _)); refine bP_ (cs := #[.int .i64 0, .int .i64 0, .int .i64 0, .int .i64 0, .int .i64 0, .int .i64 0, .int .i64 0, .int .i64 0, .int .i64 0]) ?_ 0 _ rfl; (with_reducible repeat (first | refine bN_ ?_ _ | refine bD_ ?_ | refine bA_ ?_ _)); exact BK268.out), Q_X8_, Q_X17_⟩
    exact steps_nil
   rintro b a w32 hall ⟨v252, adz_v252, gb268, m8_, m17_, ha, Q_BK248, Q_HI0, Q_HK, Q_HB, Q_HI0_e1, Q_HO253, Q_HA_HO253, Q_HI0_e7, Q_HI0_e11, Q_HI0_e13, Q_BK268, Q_GW268, Q_GE268, Q_NB0_268, Q_NB268_0, Q_NB248_268, Q_NB268_248, Q_BK268_e18, Q_X8_, Q_X17_⟩
   clear BK248 HB HI0 HK
   have hb1_ := hall 1 (by kernel_rfl)
   have hb2_ := hall 2 (by kernel_rfl)
   have hb3_ := hall 3 (by kernel_rfl)
   have hb4_ := hall 4 (by kernel_rfl)
   have hb5_ := hall 5 (by kernel_rfl)
   have hb7_ := hall 7 (by kernel_rfl)
   have hb8_ := hall 8 (by kernel_rfl)
   have hb9_ := hall 9 (by kernel_rfl)
   have hb11_ := hall 11 (by kernel_rfl)
   have hb13_ := hall 13 (by kernel_rfl)
   have hb14_ := hall 14 (by kernel_rfl)
   have hb15_ := hall 15 (by kernel_rfl)
   have hb16_ := hall 16 (by kernel_rfl)
   have hb17_ := hall 17 (by kernel_rfl)
   have hb18_ := hall 18 (by kernel_rfl)
   subst ha
   obtain rfl := Q_X8_ hb8_
   obtain rfl := Q_X17_ hb17_
   simp only [putSel, hb1_, hb2_, hb3_, hb4_, hb5_, hb7_, hb8_, hb9_, hb11_, hb13_, hb14_, hb15_, hb16_, hb17_, hb18_, if_true, Act.put, List.setIfInBounds_toArray, List.set_cons_zero, List.set_cons_succ]
   have BK248 := Az_.mk Q_BK248
   clear Q_BK248
   clear Q_HI0
   have HK := Az_.mk Q_HK
   clear Q_HK
   have HB := Az_.mk Q_HB
   clear Q_HB
   clear Q_HI0_e1
   have HO253 := Az_.mk (Q_HO253 hb5_)
   clear Q_HO253
   have HA_HO253 := Az_.mk (Q_HA_HO253 hb5_)
   clear Q_HA_HO253
   clear Q_HI0_e7
   clear Q_HI0_e11
   have HI0 := Az_.mk (Q_HI0_e13 hb13_)
   clear Q_HI0_e13
   clear Q_BK268
   have GW268 := Az_.mk (Q_GW268 hb17_)
   clear Q_GW268
   have GE268 := Az_.mk (Q_GE268 hb17_)
   clear Q_GE268
   have NB0_268 := Az_.mk (Q_NB0_268 hb17_)
   clear Q_NB0_268
   have NB268_0 := Az_.mk (Q_NB268_0 hb17_)
   clear Q_NB268_0
   have NB248_268 := Az_.mk (Q_NB248_268 hb17_)
   clear Q_NB248_268
   have NB268_248 := Az_.mk (Q_NB268_248 hb17_)
   clear Q_NB268_248
   have BK268 := Az_.mk (Q_BK268_e18 hb18_)
   clear Q_BK268_e18
   clear hall hb1_ hb2_ hb3_ hb4_ hb5_ hb7_ hb8_ hb9_ hb11_ hb13_ hb14_ hb15_ hb16_ hb17_ hb18_
   obtain ⟨co33, eo33⟩ := HA_HO253.out
   clear HA_HO253
   subst eo33
   go_upto_if 25 with (first | ((with_reducible refine gate_callee (f := 53) rfl ?_); refine goesL_ (some 24) rfl rfl Try.func53 (by kernel_rfl) rfl #[.pointer (some ⟨g, 0, none⟩), .int .i64 2] rfl (by (try simp only [List.map_toArray, List.map_cons, List.map_nil]); first | done | rfl | (simp only [List.length_drop, List.length_take]; rfl)) ?_; (with_reducible refine (spec_l20Rd_pick.calls k g s0_0 t263 2 t269 t270 w0 _ ?side1 ?side2 A10.out).mono ?_); (case side1 => repeat (first | (with_reducible first | exact HI0.out | apply I81_.alloc | apply I81_.drewN | apply I81_.drew | apply I81_.set_1 | refine I81_.far ?_ NB0_248.out _ | refine I81_.far ?_ NB0_268.out _) | exact HI0.out)); (case side2 => repeat (first | (with_reducible first | exact HB.out | apply eA_ | apply pN_ | apply eD_ | refine eS_ ?_ (I81_.ge HI0.out) | refine eS_ ?_ GE248.out | refine eS_ ?_ GE268.out) | exact HB.out)); rintro e w34 ⟨rfl, hi, hb, hk⟩; refine ⟨_, rfl, ?_⟩; have n0_ := Az_.mk (KeepBut.blk hk (g' := gb248) (o := .cells #[.int .i64 0, .int .i64 0, .int .i64 0, .int .i64 0, .int .i64 0, .int .i64 0, .int .i64 0, .int .i64 0, .int .i64 0] 89 (0, 0)) (by (with_reducible repeat (first | refine bN_ ?_ _ | refine bD_ ?_ | refine bA_ ?_ _)); exact BK248.out) NB248_0.out (by simp)); have n1_ := Az_.mk (Kd.R_mono (Kd.R_keep (I81_.apart (show I81_ w0 _ g s0_0 t263 from by repeat (first | (with_reducible first | exact HI0.out | apply I81_.alloc | apply I81_.drewN | apply I81_.drew | apply I81_.set_1 | refine I81_.far ?_ NB0_248.out _ | refine I81_.far ?_ NB0_268.out _) | exact HI0.out)) (by (with_reducible repeat (first | apply Kd.R_alloc | apply Kd.R_drewN | apply Kd.R_drew)); exact HO253.out) (by decide)) hk (fun _ h => h.2)) (fun _ h => h.1)); have n2_ := Az_.mk (KeepBut.blk hk (g' := gb268) (o := .cells #[.int .i64 t249, .int .i64 ((rd_T26 y251 t254).f0), .int .i64 ((rd_T26 y251 t254).f1), .int .i64 0, .int .i64 1, .int .i64 t264, .int .i64 t265, .int .i64 t266, .int .i64 t267] 89 (0, 0)) (by (with_reducible repeat (first | refine bN_ ?_ _ | refine bD_ ?_ | refine bA_ ?_ _)); exact BK268.out) NB268_0.out (by simp)); have n3_ := Az_.mk (KeepBut.trans (by repeat (first | (with_reducible first | exact HK.out | apply KeepBut.set_ | apply kN_ | apply kD_ | apply kA_ | refine kF_ ?_ GW248.out _ | refine kF_ ?_ GW268.out _) | exact HK.out)) hk (.inl rfl)); have n4_ := Az_.mk (hb); have n5_ := Az_.mk (hi); clear BK248; clear HO253; clear BK268; clear HK; clear HB; clear HI0; have BK248 := n0_; have HO253 := n1_; have BK268 := n2_; have HK := n3_; have HB := n4_; have HI0 := n5_; clear n0_ n1_ n2_ n3_ n4_ n5_; (try clear hb); (try clear hb2); (try clear hk); (try clear hi)))
   (try simp only [Act.put, List.setIfInBounds_toArray, List.set_cons_zero, List.set_cons_succ])
   go_cut [] (fun wc => ∃ (kq : Nat) (x1001_10 : Int) (x269003_10 : Int) (x269004_10 : Int), Az_ (spec_l20Pane.j0 kq a1 s0_0 x1001_10 t249 ((rd_T26 y251 t254).f0) ((rd_T26 y251 t254).f1) x269003_10 x269004_10 t264 t265 t266 t267 = some (r1, r2, r3, r4, r5, r6, r7, r8, r9, r10)) ∧ Az_ (kq ≤ k) ∧ Az_ (wc.heap[gb248]? = some (.cells #[.int .i64 0, .int .i64 0, .int .i64 0, .int .i64 0, .int .i64 0, .int .i64 0, .int .i64 0, .int .i64 0, .int .i64 0] 89 (0, 0))) ∧ Az_ (wc.heap[gb268]? = some (.cells #[.int .i64 t249, .int .i64 ((rd_T26 y251 t254).f0), .int .i64 ((rd_T26 y251 t254).f1), .int .i64 x269003_10, .int .i64 x269004_10, .int .i64 t264, .int .i64 t265, .int .i64 t266, .int .i64 t267] 89 (0, 0))) ∧ Az_ (I81_ w0 wc g s0_0 x1001_10) ∧ Az_ (KeepBut w wc g none) ∧ Az_ (Below w0.heap.size w0 wc))
   case first =>
    have H := HC11.out
    clear HC11
    by_cases c35 : t269 = 0
    ·rw [if_pos c35] at H
     have c35b0 : (t269 == 0) = true := beq_iff_eq.mpr c35
     have c35b1 : (t269 != 0) = false := bne_eq_false_iff_eq.mpr c35
     clear c35
     (first | rw [c35b0] | (simp only [i64_w, i32_w]; rw [c35b0]) | skip)
     replace H := Option.bind_eq_some_iff.mp H
     obtain ⟨⟨t271, t272⟩, A360, H⟩ := H
     replace H : (spec_l20Pane.j0 k a1 s0_0 t272 t249 ((rd_T26 y251 t254).f0) ((rd_T26 y251 t254).f1) (wrap64 (1 + t271)) 2 t264 t265 t266 t267) = some (r1, r2, r3, r4, r5, r6, r7, r8, r9, r10) := H
     have A36 := Az_.mk A360
     clear A360
     have H' := Az_.mk H
     clear H
     have hnb37 := NB268_248.out
     have hnc37 := NB248_268.out
     have hnb38 := NB268_0.out
     have hnc38 := NB0_268.out
     have hcz39_0 : w34.cell? ⟨gb268, 0, none⟩ = some (.int .i64 t249) := (bC_ BK268.out 0).trans rfl
     have hcz39_1 : w34.cell? ⟨gb268, 1, none⟩ = some (.int .i64 ((rd_T26 y251 t254).f0)) := (bC_ BK268.out 1).trans rfl
     have hcz39_2 : w34.cell? ⟨gb268, 2, none⟩ = some (.int .i64 ((rd_T26 y251 t254).f1)) := (bC_ BK268.out 2).trans rfl
     have hcz39_3 : w34.cell? ⟨gb268, 3, none⟩ = some (.int .i64 0) := (bC_ BK268.out 3).trans rfl
     have hcz39_4 : w34.cell? ⟨gb268, 4, none⟩ = some (.int .i64 1) := (bC_ BK268.out 4).trans rfl
     have hcz39_5 : w34.cell? ⟨gb268, 5, none⟩ = some (.int .i64 t264) := (bC_ BK268.out 5).trans rfl
     have hcz39_6 : w34.cell? ⟨gb268, 6, none⟩ = some (.int .i64 t265) := (bC_ BK268.out 6).trans rfl
     have hcz39_7 : w34.cell? ⟨gb268, 7, none⟩ = some (.int .i64 t266) := (bC_ BK268.out 7).trans rfl
     have hcz39_8 : w34.cell? ⟨gb268, 8, none⟩ = some (.int .i64 t267) := (bC_ BK268.out 8).trans rfl
     have hfz39_0 := bF_ BK268.out 0
     have hfz39_1 := bF_ BK268.out 1
     have hfz39_2 := bF_ BK268.out 2
     have hfz39_3 := bF_ BK268.out 3
     have hfz39_4 := bF_ BK268.out 4
     have hfz39_5 := bF_ BK268.out 5
     have hfz39_6 := bF_ BK268.out 6
     have hfz39_7 := bF_ BK268.out 7
     have hfz39_8 := bF_ BK268.out 8
     go_wp2_with (first | ((with_reducible refine gate_callee (f := 53) rfl ?_); refine goesL_ (some 28) rfl rfl Try.func53 (by kernel_rfl) rfl #[.pointer (some ⟨g, 0, none⟩), .int .i64 3] rfl (by (try simp only [List.map_toArray, List.map_cons, List.map_nil]); first | done | rfl | (simp only [List.length_drop, List.length_take]; rfl)) ?_; (with_reducible refine (spec_l20Rd_pick.calls k g s0_0 t270 3 t271 t272 w0 _ ?side1 ?side2 A36.out).mono ?_); (case side1 => repeat (first | (with_reducible first | exact HI0.out | apply I81_.alloc | apply I81_.drewN | apply I81_.drew | apply I81_.set_1 | refine I81_.far ?_ NB0_248.out _ | refine I81_.far ?_ NB0_268.out _) | exact HI0.out)); (case side2 => repeat (first | (with_reducible first | exact HB.out | apply eA_ | apply pN_ | apply eD_ | refine eS_ ?_ (I81_.ge HI0.out) | refine eS_ ?_ GE248.out | refine eS_ ?_ GE268.out) | exact HB.out)); rintro e w40 ⟨rfl, hi, hb, hk⟩; refine ⟨_, rfl, ?_⟩; have n0_ := Az_.mk (KeepBut.blk hk (g' := gb248) (o := .cells #[.int .i64 0, .int .i64 0, .int .i64 0, .int .i64 0, .int .i64 0, .int .i64 0, .int .i64 0, .int .i64 0, .int .i64 0] 89 (0, 0)) (by (with_reducible repeat (first | refine bN_ ?_ _ | refine bD_ ?_ | refine bA_ ?_ _)); refine bR_ ?_ NB248_268.out _; (with_reducible repeat (first | refine bN_ ?_ _ | refine bD_ ?_ | refine bA_ ?_ _)); exact BK248.out) NB248_0.out (by simp)); have n1_ := Az_.mk (Kd.R_mono (Kd.R_keep (I81_.apart (show I81_ w0 _ g s0_0 t270 from by repeat (first | (with_reducible first | exact HI0.out | apply I81_.alloc | apply I81_.drewN | apply I81_.drew | apply I81_.set_1 | refine I81_.far ?_ NB0_248.out _ | refine I81_.far ?_ NB0_268.out _) | exact HI0.out)) (by (with_reducible repeat (first | apply Kd.R_alloc | apply Kd.R_drewN | apply Kd.R_drew)); exact (Kd.R_mono (Kd.R_far (p := ⟨gb268, 4, none⟩) (Kd.R_types HO253.out BK268.out (by decide)) (fun _ hk => hk.2) (.int .i64 2)) (fun _ h_ => h_.1))) (by decide)) hk (fun _ h => h.2)) (fun _ h => h.1)); have n2_ := Az_.mk (KeepBut.blk hk (g' := gb268) (o := .cells #[.int .i64 t249, .int .i64 ((rd_T26 y251 t254).f0), .int .i64 ((rd_T26 y251 t254).f1), .int .i64 0, .int .i64 2, .int .i64 t264, .int .i64 t265, .int .i64 t266, .int .i64 t267] 89 (0, 0)) (by (with_reducible repeat (first | refine bN_ ?_ _ | refine bD_ ?_ | refine bA_ ?_ _)); refine bP_ (cs := #[.int .i64 t249, .int .i64 ((rd_T26 y251 t254).f0), .int .i64 ((rd_T26 y251 t254).f1), .int .i64 0, .int .i64 1, .int .i64 t264, .int .i64 t265, .int .i64 t266, .int .i64 t267]) ?_ 4 _ rfl; (with_reducible repeat (first | refine bN_ ?_ _ | refine bD_ ?_ | refine bA_ ?_ _)); exact BK268.out) NB268_0.out (by simp)); have n3_ := Az_.mk (KeepBut.trans (by repeat (first | (with_reducible first | exact HK.out | apply KeepBut.set_ | apply kN_ | apply kD_ | apply kA_ | refine kF_ ?_ GW248.out _ | refine kF_ ?_ GW268.out _) | exact HK.out)) hk (.inl rfl)); have n4_ := Az_.mk (hb); have n5_ := Az_.mk (hi); clear BK248; clear HO253; clear BK268; clear HK; clear HB; clear HI0; have BK248 := n0_; have HO253 := n1_; have BK268 := n2_; have HK := n3_; have HB := n4_; have HI0 := n5_; clear n0_ n1_ n2_ n3_ n4_ n5_; (try clear hb); (try clear hb2); (try clear hk); (try clear hi); have hcz41_0 : w40.cell? ⟨gb268, 0, none⟩ = some (.int .i64 t249) := (bC_ BK268.out 0).trans rfl; have hcz41_1 : w40.cell? ⟨gb268, 1, none⟩ = some (.int .i64 ((rd_T26 y251 t254).f0)) := (bC_ BK268.out 1).trans rfl; have hcz41_2 : w40.cell? ⟨gb268, 2, none⟩ = some (.int .i64 ((rd_T26 y251 t254).f1)) := (bC_ BK268.out 2).trans rfl; have hcz41_3 : w40.cell? ⟨gb268, 3, none⟩ = some (.int .i64 0) := (bC_ BK268.out 3).trans rfl; have hcz41_4 : w40.cell? ⟨gb268, 4, none⟩ = some (.int .i64 2) := (bC_ BK268.out 4).trans rfl; have hcz41_5 : w40.cell? ⟨gb268, 5, none⟩ = some (.int .i64 t264) := (bC_ BK268.out 5).trans rfl; have hcz41_6 : w40.cell? ⟨gb268, 6, none⟩ = some (.int .i64 t265) := (bC_ BK268.out 6).trans rfl; have hcz41_7 : w40.cell? ⟨gb268, 7, none⟩ = some (.int .i64 t266) := (bC_ BK268.out 7).trans rfl; have hcz41_8 : w40.cell? ⟨gb268, 8, none⟩ = some (.int .i64 t267) := (bC_ BK268.out 8).trans rfl; have hfz41_0 := bF_ BK268.out 0; have hfz41_1 := bF_ BK268.out 1; have hfz41_2 := bF_ BK268.out 2; have hfz41_3 := bF_ BK268.out 3; have hfz41_4 := bF_ BK268.out 4; have hfz41_5 := bF_ BK268.out 5; have hfz41_6 := bF_ BK268.out 6; have hfz41_7 := bF_ BK268.out 7; have hfz41_8 := bF_ BK268.out 8))
     go_meet
     case rel => exact ⟨_, (t272), (wrap64 (1 + t271)), (2), H', ⟨by first | omega | exact Nat.le_refl _⟩, ⟨by (with_reducible repeat (first | refine bN_ ?_ _ | refine bD_ ?_ | refine bA_ ?_ _)); refine bR_ ?_ NB248_268.out _; (with_reducible repeat (first | refine bN_ ?_ _ | refine bD_ ?_ | refine bA_ ?_ _)); exact BK248.out⟩, ⟨by (with_reducible repeat (first | refine bN_ ?_ _ | refine bD_ ?_ | refine bA_ ?_ _)); refine bP_ (cs := #[.int .i64 t249, .int .i64 ((rd_T26 y251 t254).f0), .int .i64 ((rd_T26 y251 t254).f1), .int .i64 0, .int .i64 2, .int .i64 t264, .int .i64 t265, .int .i64 t266, .int .i64 t267]) ?_ 3 _ rfl; (with_reducible repeat (first | refine bN_ ?_ _ | refine bD_ ?_ | refine bA_ ?_ _)); exact BK268.out⟩, ⟨by repeat (first | (with_reducible first | exact HI0.out | apply I81_.alloc | apply I81_.drewN | apply I81_.drew | apply I81_.set_1 | refine I81_.far ?_ NB0_248.out _ | refine I81_.far ?_ NB0_268.out _) | exact HI0.out)⟩, ⟨by repeat (first | (with_reducible first | exact HK.out | apply KeepBut.set_ | apply kN_ | apply kD_ | apply kA_ | refine kF_ ?_ GW248.out _ | refine kF_ ?_ GW268.out _) | exact HK.out)⟩, ⟨by repeat (first | (with_reducible first | exact HB.out | apply eA_ | apply pN_ | apply eD_ | refine eS_ ?_ (I81_.ge HI0.out) | refine eS_ ?_ GE248.out | refine eS_ ?_ GE268.out) | exact HB.out)⟩⟩
    ·rw [if_neg c35] at H
     have c35b0 : (t269 == 0) = false := beq_eq_false_iff_ne.mpr c35
     have c35b1 : (t269 != 0) = true := bne_iff_ne.mpr c35
     (first | rw [c35b0] | (simp only [i64_w, i32_w]; rw [c35b0]) | skip)
     have H' := Az_.mk H
     clear H
     go_wp2
     go_meet
     case rel => exact ⟨_, (t270), (0), (1), H', ⟨by first | omega | exact Nat.le_refl _⟩, ⟨by (with_reducible repeat (first | refine bN_ ?_ _ | refine bD_ ?_ | refine bA_ ?_ _)); exact BK248.out⟩, ⟨by (with_reducible repeat (first | refine bN_ ?_ _ | refine bD_ ?_ | refine bA_ ?_ _)); exact BK268.out⟩, ⟨by repeat (first | (with_reducible first | exact HI0.out | apply I81_.alloc | apply I81_.drewN | apply I81_.drew | apply I81_.set_1 | refine I81_.far ?_ NB0_248.out _ | refine I81_.far ?_ NB0_268.out _) | exact HI0.out)⟩, ⟨by repeat (first | (with_reducible first | exact HK.out | apply KeepBut.set_ | apply kN_ | apply kD_ | apply kA_ | refine kF_ ?_ GW248.out _ | refine kF_ ?_ GW268.out _) | exact HK.out)⟩, ⟨by repeat (first | (with_reducible first | exact HB.out | apply eA_ | apply pN_ | apply eD_ | refine eS_ ?_ (I81_.ge HI0.out) | refine eS_ ?_ GE248.out | refine eS_ ?_ GE268.out) | exact HB.out)⟩⟩
   case rest =>
    clear HC11
    try clear hx1
    try clear c2
    try clear p2
    try clear qi2
    try clear c3
    try clear c5
    try clear c6
    try clear p6
    try clear qi25
    try clear c35
    try clear c35b0
    try clear c35b1
    try clear c37
    try clear c38
    try clear hcz39_0
    try clear hcz39_1
    try clear hcz39_2
    try clear hcz39_3
    try clear hcz39_4
    try clear hcz39_5
    try clear hcz39_6
    try clear hcz39_7
    try clear hcz39_8
    try clear hcz41_0
    try clear hcz41_1
    try clear hcz41_2
    try clear hcz41_3
    try clear hcz41_4
    try clear hcz41_5
    try clear hcz41_6
    try clear hcz41_7
    try clear hcz41_8
    try clear hfz39_0
    try clear hfz39_1
    try clear hfz39_2
    try clear hfz39_3
    try clear hfz39_4
    try clear hfz39_5
    try clear hfz39_6
    try clear hfz39_7
    try clear hfz39_8
    try clear hfz41_0
    try clear hfz41_1
    try clear hfz41_2
    try clear hfz41_3
    try clear hfz41_4
    try clear hfz41_5
    try clear hfz41_6
    try clear hfz41_7
    try clear hfz41_8
    obtain ⟨kq, x1001_10, x269003_10, x269004_10, HA, HJ10, BK248, BK268, HI0, HK, HB⟩ := hcut
    cases kq with
    | zero => exact absurd HA.out (by simp [spec_l20Pane.j0])
    | succ kj10 =>
     have H := HA.out
     clear HA
     simp only [spec_l20Pane.j0] at H
     replace H := Option.bind_eq_some_iff.mp H
     obtain ⟨⟨t273, t274⟩, A420, H⟩ := H
     replace H : (if t273 = 0 then ((spec_l20Rd_pick.f kj10 s0_0 t274 3).bind fun bt275 => (spec_l20Pane.j1 kj10 a1 s0_0 bt275.2 t249 ((rd_T26 y251 t254).f0) ((rd_T26 y251 t254).f1) (wrap64 (1 + bt275.1)) 3 0 0 0 0)) else (spec_l20Pane.j1 kj10 a1 s0_0 t274 t249 ((rd_T26 y251 t254).f0) ((rd_T26 y251 t254).f1) x269003_10 x269004_10 t264 t265 t266 t267)) = some (r1, r2, r3, r4, r5, r6, r7, r8, r9, r10) := H
     have A42 := Az_.mk A420
     clear A420
     have HC43 := Az_.mk H
     clear H
     go_upto_if 33 with (first | ((with_reducible refine gate_callee (f := 53) rfl ?_); refine goesL_ (some 32) rfl rfl Try.func53 (by kernel_rfl) rfl #[.pointer (some ⟨g, 0, none⟩), .int .i64 5] rfl (by (try simp only [List.map_toArray, List.map_cons, List.map_nil]); first | done | rfl | (simp only [List.length_drop, List.length_take]; rfl)) ?_; (with_reducible refine (spec_l20Rd_pick.calls kj10 g s0_0 x1001_10 5 t273 t274 w0 _ ?side1 ?side2 A42.out).mono ?_); (case side1 => repeat (first | (with_reducible first | exact HI0.out | apply I81_.alloc | apply I81_.drewN | apply I81_.drew | apply I81_.set_1 | refine I81_.far ?_ NB0_248.out _ | refine I81_.far ?_ NB0_268.out _) | exact HI0.out)); (case side2 => repeat (first | (with_reducible first | exact HB.out | apply eA_ | apply pN_ | apply eD_ | refine eS_ ?_ (I81_.ge HI0.out) | refine eS_ ?_ GE248.out | refine eS_ ?_ GE268.out) | exact HB.out)); rintro e w44 ⟨rfl, hi, hb, hk⟩; refine ⟨_, rfl, ?_⟩; have n0_ := Az_.mk (KeepBut.blk hk (g' := gb248) (o := .cells #[.int .i64 0, .int .i64 0, .int .i64 0, .int .i64 0, .int .i64 0, .int .i64 0, .int .i64 0, .int .i64 0, .int .i64 0] 89 (0, 0)) (by (with_reducible repeat (first | refine bN_ ?_ _ | refine bD_ ?_ | refine bA_ ?_ _)); exact BK248.out) NB248_0.out (by simp)); have n1_ := Az_.mk (KeepBut.blk hk (g' := gb268) (o := .cells #[.int .i64 t249, .int .i64 ((rd_T26 y251 t254).f0), .int .i64 ((rd_T26 y251 t254).f1), .int .i64 x269003_10, .int .i64 x269004_10, .int .i64 t264, .int .i64 t265, .int .i64 t266, .int .i64 t267] 89 (0, 0)) (by (with_reducible repeat (first | refine bN_ ?_ _ | refine bD_ ?_ | refine bA_ ?_ _)); exact BK268.out) NB268_0.out (by simp)); have n2_ := Az_.mk (KeepBut.trans (by repeat (first | (with_reducible first | exact HK.out | apply KeepBut.set_ | apply kN_ | apply kD_ | apply kA_ | refine kF_ ?_ GW248.out _ | refine kF_ ?_ GW268.out _) | exact HK.out)) hk (.inl rfl)); have n3_ := Az_.mk (hb); have n4_ := Az_.mk (hi); clear BK248; clear BK268; clear HK; clear HB; clear HI0; have BK248 := n0_; have BK268 := n1_; have HK := n2_; have HB := n3_; have HI0 := n4_; clear n0_ n1_ n2_ n3_ n4_; (try clear hb); (try clear hb2); (try clear hk); (try clear hi)))
     (try simp only [Act.put, List.setIfInBounds_toArray, List.set_cons_zero, List.set_cons_succ])
     go_cut [] (fun wc => ∃ (kq : Nat) (x1001_42 : Int) (x269000_42 : Int) (x269001_42 : Int) (x269002_42 : Int) (x269003_42 : Int) (x269004_42 : Int) (x269005_42 : Int) (x269006_42 : Int) (x269007_42 : Int) (x269008_42 : Int), Az_ (spec_l20Pane.j1 kq a1 s0_0 x1001_42 x269000_42 x269001_42 x269002_42 x269003_42 x269004_42 x269005_42 x269006_42 x269007_42 x269008_42 = some (r1, r2, r3, r4, r5, r6, r7, r8, r9, r10)) ∧ Az_ (kq ≤ kj10) ∧ Az_ (wc.heap[gb248]? = some (.cells #[.int .i64 0, .int .i64 0, .int .i64 0, .int .i64 0, .int .i64 0, .int .i64 0, .int .i64 0, .int .i64 0, .int .i64 0] 89 (0, 0))) ∧ Az_ (wc.heap[gb268]? = some (.cells #[.int .i64 x269000_42, .int .i64 x269001_42, .int .i64 x269002_42, .int .i64 x269003_42, .int .i64 x269004_42, .int .i64 x269005_42, .int .i64 x269006_42, .int .i64 x269007_42, .int .i64 x269008_42] 89 (0, 0))) ∧ Az_ (I81_ w0 wc g s0_0 x1001_42) ∧ Az_ (KeepBut w wc g none) ∧ Az_ (Below w0.heap.size w0 wc))
     case first =>
      have H := HC43.out
      clear HC43
      by_cases c45 : t273 = 0
      ·rw [if_pos c45] at H
       have c45b0 : (t273 == 0) = true := beq_iff_eq.mpr c45
       have c45b1 : (t273 != 0) = false := bne_eq_false_iff_eq.mpr c45
       clear c45
       (first | rw [c45b0] | (simp only [i64_w, i32_w]; rw [c45b0]) | skip)
       replace H := Option.bind_eq_some_iff.mp H
       obtain ⟨⟨t275, t276⟩, A460, H⟩ := H
       replace H : (spec_l20Pane.j1 kj10 a1 s0_0 t276 t249 ((rd_T26 y251 t254).f0) ((rd_T26 y251 t254).f1) (wrap64 (1 + t275)) 3 0 0 0 0) = some (r1, r2, r3, r4, r5, r6, r7, r8, r9, r10) := H
       have A46 := Az_.mk A460
       clear A460
       have H' := Az_.mk H
       clear H
       try go_wp2
       have n0_ := Az_.mk (bD_ BK248.out)
       have n1_ := Az_.mk (bD_ BK268.out)
       have n2_ := Az_.mk (I81_.drew HI0.out)
       have n3_ := Az_.mk (kD_ HK.out)
       have n4_ := Az_.mk (eD_ HB.out)
       clear BK248
       clear BK268
       clear HI0
       clear HK
       clear HB
       have BK248 := n0_
       have BK268 := n1_
       have HI0 := n2_
       have HK := n3_
       have HB := n4_
       clear n0_ n1_ n2_ n3_ n4_
       refine start_ (n := 9) (S := fun w' => w'.cell? ⟨gb268, 0, none⟩ = some (.int .i64 t249) ∧ w'.cell? ⟨gb268, 1, none⟩ = some (.int .i64 ((rd_T26 y251 t254).f0)) ∧ w'.cell? ⟨gb268, 2, none⟩ = some (.int .i64 ((rd_T26 y251 t254).f1)) ∧ w'.cell? ⟨gb268, 3, none⟩ = some (.int .i64 x269003_10) ∧ w'.cell? ⟨gb268, 4, none⟩ = some (.int .i64 x269004_10) ∧ w'.cell? ⟨gb268, 5, none⟩ = some (.int .i64 t264) ∧ w'.cell? ⟨gb268, 6, none⟩ = some (.int .i64 t265) ∧ w'.cell? ⟨gb268, 7, none⟩ = some (.int .i64 t266) ∧ w'.cell? ⟨gb268, 8, none⟩ = some (.int .i64 t267)) (ds := [8]) #[false, false, false, false, false, false, false, false, false] (by kernel_rfl) rfl rfl ⟨(bC_ BK268.out 0).trans rfl, (bC_ BK268.out 1).trans rfl, (bC_ BK268.out 2).trans rfl, (bC_ BK268.out 3).trans rfl, (bC_ BK268.out 4).trans rfl, (bC_ BK268.out 5).trans rfl, (bC_ BK268.out 6).trans rfl, (bC_ BK268.out 7).trans rfl, (bC_ BK268.out 8).trans rfl⟩ (fun hHeld => ?_); refine with_tabW spec_l20Pane.tab6 spec_l20Pane.bits6 (fun HT_ HW_ => ?_)
       generalize w44.drew = w47 at BK248 BK268 HI0 HK HB hHeld ⊢
       refine pure_ (i := 0) (N := some 34) (v := ?_) (a' := ?_) #[true, false, false, false, false, false, false, false, false] rfl rfl (any_of HT_.out (by kernel_rfl)) (fun _ _ _ h => h) (Or.inl ⟨by rfl, ?_⟩) ?_ ?_
       rotate_left
       ·intro w'
        go_simp
        with_reducible rfl
       rotate_left
       ·simp only [Act.put, List.setIfInBounds_toArray, List.set_cons_zero, List.set_cons_succ, i64_w, i32_w]
        rfl
       refine pure_ (i := 2) (N := some 36) (v := ?_) (a' := ?_) #[true, false, true, false, false, false, false, false, false] rfl rfl (any_of HT_.out (by kernel_rfl)) (fun _ _ _ h => h) (Or.inl ⟨by rfl, ?_⟩) ?_ ?_
       rotate_left
       ·intro w'
        go_simp
        with_reducible rfl
       rotate_left
       ·simp only [Act.put, List.setIfInBounds_toArray, List.set_cons_zero, List.set_cons_succ, i64_w, i32_w]
        rfl
       refine pure_ (i := 4) (N := some 38) (v := ?_) (a' := ?_) #[true, false, true, false, true, false, false, false, false] rfl rfl (any_of HT_.out (by kernel_rfl)) (fun _ _ _ h => h) (Or.inl ⟨by rfl, ?_⟩) ?_ ?_
       rotate_left
       ·intro w'
        go_simp
        with_reducible rfl
       rotate_left
       ·simp only [Act.put, List.setIfInBounds_toArray, List.set_cons_zero, List.set_cons_succ, i64_w, i32_w]
        rfl
       refine take_ (i := 1) (N := some 35) (v := ?_) (a' := ?_) #[true, true, true, false, true, false, false, false, false] rfl rfl (take_ofW HT_.out HW_.out (by kernel_rfl)) (fun _ _ _ h => h) (Or.inl ⟨by rfl, ?_⟩) hHeld ?_ ?_
       rotate_left
       ·rintro w' ⟨s0, s1, s2, s3, s4, s5, s6, s7, s8⟩
        go_simp
        with_reducible rfl
       rotate_left
       ·simp only [Act.put, List.setIfInBounds_toArray, List.set_cons_zero, List.set_cons_succ, i64_w, i32_w]
        rfl
       refine take_ (i := 3) (N := some 37) (v := ?_) (a' := ?_) #[true, true, true, true, true, false, false, false, false] rfl rfl (take_ofW HT_.out HW_.out (by kernel_rfl)) (fun _ _ _ h => h) (Or.inl ⟨by rfl, ?_⟩) hHeld ?_ ?_
       rotate_left
       ·rintro w' ⟨s0, s1, s2, s3, s4, s5, s6, s7, s8⟩
        go_simp
        with_reducible rfl
       rotate_left
       ·simp only [Act.put, List.setIfInBounds_toArray, List.set_cons_zero, List.set_cons_succ, i64_w, i32_w]
        rfl
       refine one_ (i := 5) (N := some 39) #[true, true, true, true, true, true, false, false, false] rfl rfl (one_of HT_.out (by kernel_rfl)) (by decide) (fun K hK => ?_)
       refine goes_ Try.func53 (by kernel_rfl) rfl #[.pointer (some ⟨g, 0, none⟩), .int .i64 3] (by rfl) rfl rfl (by (try simp only [List.map_toArray, List.map_cons, List.map_nil]); first | done | rfl | (simp only [List.length_drop, List.length_take]; rfl)) ?_
       with_reducible refine (spec_l20Rd_pick.calls kj10 g s0_0 t274 3 t275 t276 w0 _ ?side1 ?side2 A46.out).mono ?_
       (case side1 => repeat (first | (with_reducible first | exact HI0.out | apply I81_.alloc | apply I81_.drewN | apply I81_.drew | apply I81_.set_1 | refine I81_.far ?_ NB0_248.out _ | refine I81_.far ?_ NB0_268.out _) | exact HI0.out))
       (case side2 => repeat (first | (with_reducible first | exact HB.out | apply eA_ | apply pN_ | apply eD_ | refine eS_ ?_ (I81_.ge HI0.out) | refine eS_ ?_ GE248.out | refine eS_ ?_ GE268.out) | exact HB.out))
       rintro e w48 ⟨rfl, hi, hb, hk⟩
       refine ⟨_, rfl, ?_⟩
       have n0_ := Az_.mk (KeepBut.blk hk (g' := gb248) (o := .cells #[.int .i64 0, .int .i64 0, .int .i64 0, .int .i64 0, .int .i64 0, .int .i64 0, .int .i64 0, .int .i64 0, .int .i64 0] 89 (0, 0)) (by (with_reducible repeat (first | refine bN_ ?_ _ | refine bD_ ?_ | refine bA_ ?_ _)); exact BK248.out) NB248_0.out (by simp))
       have n1_ := Az_.mk (KeepBut.blk hk (g' := gb268) (o := .cells #[.int .i64 t249, .int .i64 ((rd_T26 y251 t254).f0), .int .i64 ((rd_T26 y251 t254).f1), .int .i64 x269003_10, .int .i64 x269004_10, .int .i64 t264, .int .i64 t265, .int .i64 t266, .int .i64 t267] 89 (0, 0)) (by (with_reducible repeat (first | refine bN_ ?_ _ | refine bD_ ?_ | refine bA_ ?_ _)); exact BK268.out) NB268_0.out (by simp))
       have n2_ := Az_.mk (KeepBut.trans (by repeat (first | (with_reducible first | exact HK.out | apply KeepBut.set_ | apply kN_ | apply kD_ | apply kA_ | refine kF_ ?_ GW248.out _ | refine kF_ ?_ GW268.out _) | exact HK.out)) hk (.inl rfl))
       have n3_ := Az_.mk (hb)
       have n4_ := Az_.mk (hi)
       clear BK248
       clear BK268
       clear HK
       clear HB
       clear HI0
       have BK248 := n0_
       have BK268 := n1_
       have HK := n2_
       have HB := n3_
       have HI0 := n4_
       clear n0_ n1_ n2_ n3_ n4_
       (try clear hb)
       (try clear hb2)
       (try clear hk)
       (try clear hi)
       refine hK.out _ _ ⟨(bC_ BK268.out 0).trans rfl, (bC_ BK268.out 1).trans rfl, (bC_ BK268.out 2).trans rfl, (bC_ BK268.out 3).trans rfl, (bC_ BK268.out 4).trans rfl, (bC_ BK268.out 5).trans rfl, (bC_ BK268.out 6).trans rfl, (bC_ BK268.out 7).trans rfl, (bC_ BK268.out 8).trans rfl⟩ (fun hHeld => ?_)
       clear hK K
       refine norm_ (a' := ?_) ?_ ?_
       rotate_left
       ·show Act.put _ (some 39) _ = _
        simp only [Act.put, List.setIfInBounds_toArray, List.set_cons_zero, List.set_cons_succ, i64_w, i32_w]
        rfl
       refine pure_ (i := 6) (N := some 40) (v := ?_) (a' := ?_) #[true, true, true, true, true, true, true, false, false] rfl rfl (any_of HT_.out (by kernel_rfl)) (fun _ _ _ h => h) (Or.inl ⟨by rfl, ?_⟩) ?_ ?_
       rotate_left
       ·intro w'
        go_simp
        with_reducible rfl
       rotate_left
       ·simp only [Act.put, List.setIfInBounds_toArray, List.set_cons_zero, List.set_cons_succ, i64_w, i32_w]
        rfl
       refine pure_ (i := 7) (N := some 41) (v := ?_) (a' := ?_) #[true, true, true, true, true, true, true, true, false] rfl rfl (any_of HT_.out (by kernel_rfl)) (fun _ _ _ h => h) (Or.inl ⟨by rfl, ?_⟩) ?_ ?_
       rotate_left
       ·intro w'
        go_simp
        with_reducible rfl
       rotate_left
       ·simp only [Act.put, List.setIfInBounds_toArray, List.set_cons_zero, List.set_cons_succ, i64_w, i32_w]
        rfl
       refine last_ (i := 8) (N := none) #[true, true, true, true, true, true, true, true, true] rfl rfl (one_of HT_.out (by kernel_rfl)) (by decide) (fun K hK => ?_)
       have hs49 : w48.cell? ⟨gb268, 0, none⟩ = some (.int .i64 t249) := (bC_ BK268.out 0).trans rfl
       have hfs49 := bF_ BK268.out 0
       have hns49_0 := NB248_268.out
       have hms49_0 := NB268_248.out
       have hs50 : w48.cell? ⟨gb268, 1, none⟩ = some (.int .i64 ((rd_T26 y251 t254).f0)) := (bC_ BK268.out 1).trans rfl
       have hfs50 := bF_ BK268.out 1
       have hns50_0 := NB248_268.out
       have hms50_0 := NB268_248.out
       have hs51 : w48.cell? ⟨gb268, 2, none⟩ = some (.int .i64 ((rd_T26 y251 t254).f1)) := (bC_ BK268.out 2).trans rfl
       have hfs51 := bF_ BK268.out 2
       have hns51_0 := NB248_268.out
       have hms51_0 := NB268_248.out
       have hs52 : w48.cell? ⟨gb268, 3, none⟩ = some (.int .i64 x269003_10) := (bC_ BK268.out 3).trans rfl
       have hfs52 := bF_ BK268.out 3
       have hns52_0 := NB248_268.out
       have hms52_0 := NB268_248.out
       have hs53 : w48.cell? ⟨gb268, 4, none⟩ = some (.int .i64 x269004_10) := (bC_ BK268.out 4).trans rfl
       have hfs53 := bF_ BK268.out 4
       have hns53_0 := NB248_268.out
       have hms53_0 := NB268_248.out
       have hs54 : w48.cell? ⟨gb268, 5, none⟩ = some (.int .i64 t264) := (bC_ BK268.out 5).trans rfl
       have hfs54 := bF_ BK268.out 5
       have hns54_0 := NB248_268.out
       have hms54_0 := NB268_248.out
       have hs55 : w48.cell? ⟨gb268, 6, none⟩ = some (.int .i64 t265) := (bC_ BK268.out 6).trans rfl
       have hfs55 := bF_ BK268.out 6
       have hns55_0 := NB248_268.out
       have hms55_0 := NB268_248.out
       have hs56 : w48.cell? ⟨gb268, 7, none⟩ = some (.int .i64 t266) := (bC_ BK268.out 7).trans rfl
       have hfs56 := bF_ BK268.out 7
       have hns56_0 := NB248_268.out
       have hms56_0 := NB268_248.out
       have hs57 : w48.cell? ⟨gb268, 8, none⟩ = some (.int .i64 t267) := (bC_ BK268.out 8).trans rfl
       have hfs57 := bF_ BK268.out 8
       have hns57_0 := NB248_268.out
       have hms57_0 := NB268_248.out
       refine skip_ (w1 := ?_) (by rfl) rfl ?_ ?_
       rotate_left
       ·go_simp
        rfl
       refine hK.out _ _ ?_
       clear hK K
       refine done_ (done_of HT_.out (by kernel_rfl)) ?_
       try go_wp2
       go_meet
       case rel => exact ⟨_, (t276), (t249), (((rd_T26 y251 t254).f0)), (((rd_T26 y251 t254).f1)), (wrap64 (1 + t275)), (3), (0), (0), (0), (0), H', ⟨by have := HJ10.out; first | omega | exact Nat.le_refl _⟩, ⟨by (with_reducible repeat (first | refine bN_ ?_ _ | refine bD_ ?_ | refine bA_ ?_ _)); refine bR_ ?_ NB248_268.out _; (with_reducible repeat (first | refine bN_ ?_ _ | refine bD_ ?_ | refine bA_ ?_ _)); refine bR_ ?_ NB248_268.out _; (with_reducible repeat (first | refine bN_ ?_ _ | refine bD_ ?_ | refine bA_ ?_ _)); refine bR_ ?_ NB248_268.out _; (with_reducible repeat (first | refine bN_ ?_ _ | refine bD_ ?_ | refine bA_ ?_ _)); refine bR_ ?_ NB248_268.out _; (with_reducible repeat (first | refine bN_ ?_ _ | refine bD_ ?_ | refine bA_ ?_ _)); refine bR_ ?_ NB248_268.out _; (with_reducible repeat (first | refine bN_ ?_ _ | refine bD_ ?_ | refine bA_ ?_ _)); refine bR_ ?_ NB248_268.out _; (with_reducible repeat (first | refine bN_ ?_ _ | refine bD_ ?_ | refine bA_ ?_ _)); refine bR_ ?_ NB248_268.out _; (with_reducible repeat (first | refine bN_ ?_ _ | refine bD_ ?_ | refine bA_ ?_ _)); refine bR_ ?_ NB248_268.out _; (with_reducible repeat (first | refine bN_ ?_ _ | refine bD_ ?_ | refine bA_ ?_ _)); refine bR_ ?_ NB248_268.out _; (with_reducible repeat (first | refine bN_ ?_ _ | refine bD_ ?_ | refine bA_ ?_ _)); exact BK248.out⟩, ⟨by (with_reducible repeat (first | refine bN_ ?_ _ | refine bD_ ?_ | refine bA_ ?_ _)); refine bP_ (cs := #[.int .i64 t249, .int .i64 ((rd_T26 y251 t254).f0), .int .i64 ((rd_T26 y251 t254).f1), .int .i64 (wrap64 (1 + t275)), .int .i64 3, .int .i64 0, .int .i64 0, .int .i64 0, .int .i64 t267]) ?_ 8 _ rfl; (with_reducible repeat (first | refine bN_ ?_ _ | refine bD_ ?_ | refine bA_ ?_ _)); refine bP_ (cs := #[.int .i64 t249, .int .i64 ((rd_T26 y251 t254).f0), .int .i64 ((rd_T26 y251 t254).f1), .int .i64 (wrap64 (1 + t275)), .int .i64 3, .int .i64 0, .int .i64 0, .int .i64 t266, .int .i64 t267]) ?_ 7 _ rfl; (with_reducible repeat (first | refine bN_ ?_ _ | refine bD_ ?_ | refine bA_ ?_ _)); refine bP_ (cs := #[.int .i64 t249, .int .i64 ((rd_T26 y251 t254).f0), .int .i64 ((rd_T26 y251 t254).f1), .int .i64 (wrap64 (1 + t275)), .int .i64 3, .int .i64 0, .int .i64 t265, .int .i64 t266, .int .i64 t267]) ?_ 6 _ rfl; (with_reducible repeat (first | refine bN_ ?_ _ | refine bD_ ?_ | refine bA_ ?_ _)); refine bP_ (cs := #[.int .i64 t249, .int .i64 ((rd_T26 y251 t254).f0), .int .i64 ((rd_T26 y251 t254).f1), .int .i64 (wrap64 (1 + t275)), .int .i64 3, .int .i64 t264, .int .i64 t265, .int .i64 t266, .int .i64 t267]) ?_ 5 _ rfl; (with_reducible repeat (first | refine bN_ ?_ _ | refine bD_ ?_ | refine bA_ ?_ _)); refine bP_ (cs := #[.int .i64 t249, .int .i64 ((rd_T26 y251 t254).f0), .int .i64 ((rd_T26 y251 t254).f1), .int .i64 (wrap64 (1 + t275)), .int .i64 x269004_10, .int .i64 t264, .int .i64 t265, .int .i64 t266, .int .i64 t267]) ?_ 4 _ rfl; (with_reducible repeat (first | refine bN_ ?_ _ | refine bD_ ?_ | refine bA_ ?_ _)); refine bP_ (cs := #[.int .i64 t249, .int .i64 ((rd_T26 y251 t254).f0), .int .i64 ((rd_T26 y251 t254).f1), .int .i64 x269003_10, .int .i64 x269004_10, .int .i64 t264, .int .i64 t265, .int .i64 t266, .int .i64 t267]) ?_ 3 _ rfl; (with_reducible repeat (first | refine bN_ ?_ _ | refine bD_ ?_ | refine bA_ ?_ _)); refine bP_ (cs := #[.int .i64 t249, .int .i64 ((rd_T26 y251 t254).f0), .int .i64 ((rd_T26 y251 t254).f1), .int .i64 x269003_10, .int .i64 x269004_10, .int .i64 t264, .int .i64 t265, .int .i64 t266, .int .i64 t267]) ?_ 2 _ rfl; (with_reducible repeat (first | refine bN_ ?_ _ | refine bD_ ?_ | refine bA_ ?_ _)); refine bP_ (cs := #[.int .i64 t249, .int .i64 ((rd_T26 y251 t254).f0), .int .i64 ((rd_T26 y251 t254).f1), .int .i64 x269003_10, .int .i64 x269004_10, .int .i64 t264, .int .i64 t265, .int .i64 t266, .int .i64 t267]) ?_ 1 _ rfl; (with_reducible repeat (first | refine bN_ ?_ _ | refine bD_ ?_ | refine bA_ ?_ _)); refine bP_ (cs := #[.int .i64 t249, .int .i64 ((rd_T26 y251 t254).f0), .int .i64 ((rd_T26 y251 t254).f1), .int .i64 x269003_10, .int .i64 x269004_10, .int .i64 t264, .int .i64 t265, .int .i64 t266, .int .i64 t267]) ?_ 0 _ rfl; (with_reducible repeat (first | refine bN_ ?_ _ | refine bD_ ?_ | refine bA_ ?_ _)); exact BK268.out⟩, ⟨by repeat (first | (with_reducible first | exact HI0.out | apply I81_.alloc | apply I81_.drewN | apply I81_.drew | apply I81_.set_1 | refine I81_.far ?_ NB0_248.out _ | refine I81_.far ?_ NB0_268.out _) | exact HI0.out)⟩, ⟨by repeat (first | (with_reducible first | exact HK.out | apply KeepBut.set_ | apply kN_ | apply kD_ | apply kA_ | refine kF_ ?_ GW248.out _ | refine kF_ ?_ GW268.out _) | exact HK.out)⟩, ⟨by repeat (first | (with_reducible first | exact HB.out | apply eA_ | apply pN_ | apply eD_ | refine eS_ ?_ (I81_.ge HI0.out) | refine eS_ ?_ GE248.out | refine eS_ ?_ GE268.out) | exact HB.out)⟩⟩
      ·rw [if_neg c45] at H
       have c45b0 : (t273 == 0) = false := beq_eq_false_iff_ne.mpr c45
       have c45b1 : (t273 != 0) = true := bne_iff_ne.mpr c45
       (first | rw [c45b0] | (simp only [i64_w, i32_w]; rw [c45b0]) | skip)
       have H' := Az_.mk H
       clear H
       go_wp2
       go_meet
       case rel => exact ⟨_, (t274), (t249), (((rd_T26 y251 t254).f0)), (((rd_T26 y251 t254).f1)), (x269003_10), (x269004_10), (t264), (t265), (t266), (t267), H', ⟨by have := HJ10.out; first | omega | exact Nat.le_refl _⟩, ⟨by (with_reducible repeat (first | refine bN_ ?_ _ | refine bD_ ?_ | refine bA_ ?_ _)); exact BK248.out⟩, ⟨by (with_reducible repeat (first | refine bN_ ?_ _ | refine bD_ ?_ | refine bA_ ?_ _)); exact BK268.out⟩, ⟨by repeat (first | (with_reducible first | exact HI0.out | apply I81_.alloc | apply I81_.drewN | apply I81_.drew | apply I81_.set_1 | refine I81_.far ?_ NB0_248.out _ | refine I81_.far ?_ NB0_268.out _) | exact HI0.out)⟩, ⟨by repeat (first | (with_reducible first | exact HK.out | apply KeepBut.set_ | apply kN_ | apply kD_ | apply kA_ | refine kF_ ?_ GW248.out _ | refine kF_ ?_ GW268.out _) | exact HK.out)⟩, ⟨by repeat (first | (with_reducible first | exact HB.out | apply eA_ | apply pN_ | apply eD_ | refine eS_ ?_ (I81_.ge HI0.out) | refine eS_ ?_ GE248.out | refine eS_ ?_ GE268.out) | exact HB.out)⟩⟩
     case rest =>
      clear HC43
      try clear hx1
      try clear c2
      try clear p2
      try clear qi2
      try clear c3
      try clear c4
      try clear c5
      try clear c6
      try clear p6
      try clear qi25
      try clear c35
      try clear c35b0
      try clear c35b1
      try clear c37
      try clear c38
      try clear c45
      try clear c45b0
      try clear c45b1
      try clear c53
      try clear c54
      try clear hcz39_0
      try clear hcz39_1
      try clear hcz39_2
      try clear hcz39_3
      try clear hcz39_4
      try clear hcz39_5
      try clear hcz39_6
      try clear hcz39_7
      try clear hcz39_8
      try clear hcz41_0
      try clear hcz41_1
      try clear hcz41_2
      try clear hcz41_3
      try clear hcz41_4
      try clear hcz41_5
      try clear hcz41_6
      try clear hcz41_7
      try clear hcz41_8
      try clear hfz39_0
      try clear hfz39_1
      try clear hfz39_2
      try clear hfz39_3
      try clear hfz39_4
      try clear hfz39_5
      try clear hfz39_6
      try clear hfz39_7
      try clear hfz39_8
      try clear hfz41_0
      try clear hfz41_1
      try clear hfz41_2
      try clear hfz41_3
      try clear hfz41_4
      try clear hfz41_5
      try clear hfz41_6
      try clear hfz41_7
      try clear hfz41_8
      try clear p2
      try clear p6
      obtain ⟨kq, x1001_42, x269000_42, x269001_42, x269002_42, x269003_42, x269004_42, x269005_42, x269006_42, x269007_42, x269008_42, HA, HJ42, BK248, BK268, HI0, HK, HB⟩ := hcut
      cases kq with
      | zero => exact absurd HA.out (by simp [spec_l20Pane.j1])
      | succ kj42 =>
       have H := HA.out
       clear HA
       simp only [spec_l20Pane.j1] at H
       replace H := Option.bind_eq_some_iff.mp H
       obtain ⟨⟨t277, t278⟩, A580, H⟩ := H
       replace H : (if t277 > 0 then (some (x269000_42, x269001_42, x269002_42, x269003_42, x269004_42, x269005_42, x269006_42, x269007_42, x269008_42, t278)) else ((spec_l20Rd_pick.f kj42 s0_0 t278 5).bind fun bt279 => (if bt279.1 = 0 then ((some (([(-1), 4] : List Int) : List Int)).bind fun y281 => ((spec_l20Rd_pick.f kj42 s0_0 bt279.2 2).bind fun bt284 => (if 0 ≤ bt284.1 then (if bt284.1 < (y281.length : Int) then (some (rd y281 bt284.1, x269001_42, x269002_42, x269003_42, x269004_42, x269005_42, x269006_42, x269007_42, x269008_42, bt284.2)) else (none)) else (none)))) else (if bt279.1 = 1 then ((spec_l20Win.f kj42 s0_0 bt279.2 1).bind fun bt287 => (some (x269000_42, bt287.1, bt287.2.1, x269003_42, x269004_42, x269005_42, x269006_42, x269007_42, x269008_42, bt287.2.2))) else (if bt279.1 = 2 then ((some (([(-1), 0, 1, 1500, 1501] : List Int) : List Int)).bind fun y290 => ((spec_l20Rd_pick.f kj42 s0_0 bt279.2 5).bind fun bt293 => (if 0 ≤ bt293.1 then (if bt293.1 < (y290.length : Int) then (some (x269000_42, x269001_42, x269002_42, rd y290 bt293.1, x269004_42, x269005_42, x269006_42, x269007_42, x269008_42, bt293.2)) else (none)) else (none)))) else (if bt279.1 = 3 then ((spec_l20Rd_pick.f kj42 s0_0 bt279.2 5).bind fun bt296 => (some (x269000_42, x269001_42, x269002_42, x269003_42, bt296.1, x269005_42, x269006_42, x269007_42, x269008_42, bt296.2))) else ((spec_l20Agg.f kj42 s0_0 bt279.2 1).bind fun bt298 => (some (x269000_42, x269001_42, x269002_42, x269003_42, x269004_42, bt298.1, bt298.2.1, bt298.2.2.1, bt298.2.2.2.1, bt298.2.2.2.2))))))))) = some (r1, r2, r3, r4, r5, r6, r7, r8, r9, r10) := H
       have A58 := Az_.mk A580
       clear A580
       by_cases c59 : t277 > 0
       ·rw [if_pos c59] at H
        have c59b0 : decide (0 < t277) = true := decide_eq_true c59
        clear c59
        simp only [Option.some.injEq, Prod.mk.injEq] at H
        obtain ⟨rfl, rfl, rfl, rfl, rfl, rfl, rfl, rfl, rfl, rfl⟩ := H
        go_wp2_with (first | ((with_reducible refine gate_callee (f := 53) rfl ?_); refine goesL_ (some 44) rfl rfl Try.func53 (by kernel_rfl) rfl #[.pointer (some ⟨g, 0, none⟩), .int .i64 a1] rfl (by (try simp only [List.map_toArray, List.map_cons, List.map_nil]); first | done | rfl | (simp only [List.length_drop, List.length_take]; rfl)) ?_; (with_reducible refine (spec_l20Rd_pick.calls kj42 g s0_0 x1001_42 a1 t277 t278 w0 _ ?side1 ?side2 A58.out).mono ?_); (case side1 => repeat (first | (with_reducible first | exact HI0.out | apply I81_.alloc | apply I81_.drewN | apply I81_.drew | apply I81_.set_1 | refine I81_.far ?_ NB0_248.out _ | refine I81_.far ?_ NB0_268.out _) | exact HI0.out)); (case side2 => repeat (first | (with_reducible first | exact HB.out | apply eA_ | apply pN_ | apply eD_ | refine eS_ ?_ (I81_.ge HI0.out) | refine eS_ ?_ GE248.out | refine eS_ ?_ GE268.out) | exact HB.out)); rintro e w60 ⟨rfl, hi, hb, hk⟩; refine ⟨_, rfl, ?_⟩; have n0_ := Az_.mk (KeepBut.blk hk (g' := gb248) (o := .cells #[.int .i64 0, .int .i64 0, .int .i64 0, .int .i64 0, .int .i64 0, .int .i64 0, .int .i64 0, .int .i64 0, .int .i64 0] 89 (0, 0)) (by (with_reducible repeat (first | refine bN_ ?_ _ | refine bD_ ?_ | refine bA_ ?_ _)); exact BK248.out) NB248_0.out (by simp)); have n1_ := Az_.mk (KeepBut.blk hk (g' := gb268) (o := .cells #[.int .i64 x269000_42, .int .i64 x269001_42, .int .i64 x269002_42, .int .i64 x269003_42, .int .i64 x269004_42, .int .i64 x269005_42, .int .i64 x269006_42, .int .i64 x269007_42, .int .i64 x269008_42] 89 (0, 0)) (by (with_reducible repeat (first | refine bN_ ?_ _ | refine bD_ ?_ | refine bA_ ?_ _)); exact BK268.out) NB268_0.out (by simp)); have n2_ := Az_.mk (KeepBut.trans (by repeat (first | (with_reducible first | exact HK.out | apply KeepBut.set_ | apply kN_ | apply kD_ | apply kA_ | refine kF_ ?_ GW248.out _ | refine kF_ ?_ GW268.out _) | exact HK.out)) hk (.inl rfl)); have n3_ := Az_.mk (hb); have n4_ := Az_.mk (hi); clear BK248; clear BK268; clear HK; clear HB; clear HI0; have BK248 := n0_; have BK268 := n1_; have HK := n2_; have HB := n3_; have HI0 := n4_; clear n0_ n1_ n2_ n3_ n4_; (try clear hb); (try clear hb2); (try clear hk); (try clear hi); have hnb61 := NB268_248.out; have hnc61 := NB248_268.out; have hnb62 := NB268_0.out; have hnc62 := NB0_268.out; have hcz63_0 : w60.cell? ⟨gb268, 0, none⟩ = some (.int .i64 x269000_42) := (bC_ BK268.out 0).trans rfl; have hcz63_1 : w60.cell? ⟨gb268, 1, none⟩ = some (.int .i64 x269001_42) := (bC_ BK268.out 1).trans rfl; have hcz63_2 : w60.cell? ⟨gb268, 2, none⟩ = some (.int .i64 x269002_42) := (bC_ BK268.out 2).trans rfl; have hcz63_3 : w60.cell? ⟨gb268, 3, none⟩ = some (.int .i64 x269003_42) := (bC_ BK268.out 3).trans rfl; have hcz63_4 : w60.cell? ⟨gb268, 4, none⟩ = some (.int .i64 x269004_42) := (bC_ BK268.out 4).trans rfl; have hcz63_5 : w60.cell? ⟨gb268, 5, none⟩ = some (.int .i64 x269005_42) := (bC_ BK268.out 5).trans rfl; have hcz63_6 : w60.cell? ⟨gb268, 6, none⟩ = some (.int .i64 x269006_42) := (bC_ BK268.out 6).trans rfl; have hcz63_7 : w60.cell? ⟨gb268, 7, none⟩ = some (.int .i64 x269007_42) := (bC_ BK268.out 7).trans rfl; have hcz63_8 : w60.cell? ⟨gb268, 8, none⟩ = some (.int .i64 x269008_42) := (bC_ BK268.out 8).trans rfl; have hfz63_0 := bF_ BK268.out 0; have hfz63_1 := bF_ BK268.out 1; have hfz63_2 := bF_ BK268.out 2; have hfz63_3 := bF_ BK268.out 3; have hfz63_4 := bF_ BK268.out 4; have hfz63_5 := bF_ BK268.out 5; have hfz63_6 := bF_ BK268.out 6; have hfz63_7 := bF_ BK268.out 7; have hfz63_8 := bF_ BK268.out 8; have hnb64 := NB248_0.out; have hnc64 := NB0_248.out; have hcz65_0 : w60.cell? ⟨gb248, 0, none⟩ = some (.int .i64 0) := (bC_ BK248.out 0).trans rfl; have hcz65_1 : w60.cell? ⟨gb248, 1, none⟩ = some (.int .i64 0) := (bC_ BK248.out 1).trans rfl; have hcz65_2 : w60.cell? ⟨gb248, 2, none⟩ = some (.int .i64 0) := (bC_ BK248.out 2).trans rfl; have hcz65_3 : w60.cell? ⟨gb248, 3, none⟩ = some (.int .i64 0) := (bC_ BK248.out 3).trans rfl; have hcz65_4 : w60.cell? ⟨gb248, 4, none⟩ = some (.int .i64 0) := (bC_ BK248.out 4).trans rfl; have hcz65_5 : w60.cell? ⟨gb248, 5, none⟩ = some (.int .i64 0) := (bC_ BK248.out 5).trans rfl; have hcz65_6 : w60.cell? ⟨gb248, 6, none⟩ = some (.int .i64 0) := (bC_ BK248.out 6).trans rfl; have hcz65_7 : w60.cell? ⟨gb248, 7, none⟩ = some (.int .i64 0) := (bC_ BK248.out 7).trans rfl; have hcz65_8 : w60.cell? ⟨gb248, 8, none⟩ = some (.int .i64 0) := (bC_ BK248.out 8).trans rfl; have hfz65_0 := bF_ BK248.out 0; have hfz65_1 := bF_ BK248.out 1; have hfz65_2 := bF_ BK248.out 2; have hfz65_3 := bF_ BK248.out 3; have hfz65_4 := bF_ BK248.out 4; have hfz65_5 := bF_ BK248.out 5; have hfz65_6 := bF_ BK248.out 6; have hfz65_7 := bF_ BK248.out 7; have hfz65_8 := bF_ BK248.out 8))
        refine bodyPost_ret (results_cell_row rfl _ _ gb248 89 #[.int .i64 x269000_42, .int .i64 x269001_42, .int .i64 x269002_42, .int .i64 x269003_42, .int .i64 x269004_42, .int .i64 x269005_42, .int .i64 x269006_42, .int .i64 x269007_42, .int .i64 x269008_42] (0, 0) _ rfl (by (with_reducible repeat (first | refine bN_ ?_ _ | refine bD_ ?_ | refine bA_ ?_ _)); refine bP_ (cs := #[.int .i64 x269000_42, .int .i64 x269001_42, .int .i64 x269002_42, .int .i64 x269003_42, .int .i64 x269004_42, .int .i64 x269005_42, .int .i64 x269006_42, .int .i64 x269007_42, .int .i64 0]) ?_ 8 _ rfl; (with_reducible repeat (first | refine bN_ ?_ _ | refine bD_ ?_ | refine bA_ ?_ _)); refine bP_ (cs := #[.int .i64 x269000_42, .int .i64 x269001_42, .int .i64 x269002_42, .int .i64 x269003_42, .int .i64 x269004_42, .int .i64 x269005_42, .int .i64 x269006_42, .int .i64 0, .int .i64 0]) ?_ 7 _ rfl; (with_reducible repeat (first | refine bN_ ?_ _ | refine bD_ ?_ | refine bA_ ?_ _)); refine bP_ (cs := #[.int .i64 x269000_42, .int .i64 x269001_42, .int .i64 x269002_42, .int .i64 x269003_42, .int .i64 x269004_42, .int .i64 x269005_42, .int .i64 0, .int .i64 0, .int .i64 0]) ?_ 6 _ rfl; (with_reducible repeat (first | refine bN_ ?_ _ | refine bD_ ?_ | refine bA_ ?_ _)); refine bP_ (cs := #[.int .i64 x269000_42, .int .i64 x269001_42, .int .i64 x269002_42, .int .i64 x269003_42, .int .i64 x269004_42, .int .i64 0, .int .i64 0, .int .i64 0, .int .i64 0]) ?_ 5 _ rfl; (with_reducible repeat (first | refine bN_ ?_ _ | refine bD_ ?_ | refine bA_ ?_ _)); refine bP_ (cs := #[.int .i64 x269000_42, .int .i64 x269001_42, .int .i64 x269002_42, .int .i64 x269003_42, .int .i64 0, .int .i64 0, .int .i64 0, .int .i64 0, .int .i64 0]) ?_ 4 _ rfl; (with_reducible repeat (first | refine bN_ ?_ _ | refine bD_ ?_ | refine bA_ ?_ _)); refine bP_ (cs := #[.int .i64 x269000_42, .int .i64 x269001_42, .int .i64 x269002_42, .int .i64 0, .int .i64 0, .int .i64 0, .int .i64 0, .int .i64 0, .int .i64 0]) ?_ 3 _ rfl; (with_reducible repeat (first | refine bN_ ?_ _ | refine bD_ ?_ | refine bA_ ?_ _)); refine bP_ (cs := #[.int .i64 x269000_42, .int .i64 x269001_42, .int .i64 0, .int .i64 0, .int .i64 0, .int .i64 0, .int .i64 0, .int .i64 0, .int .i64 0]) ?_ 2 _ rfl; (with_reducible repeat (first | refine bN_ ?_ _ | refine bD_ ?_ | refine bA_ ?_ _)); refine bP_ (cs := #[.int .i64 x269000_42, .int .i64 0, .int .i64 0, .int .i64 0, .int .i64 0, .int .i64 0, .int .i64 0, .int .i64 0, .int .i64 0]) ?_ 1 _ rfl; (with_reducible repeat (first | refine bN_ ?_ _ | refine bD_ ?_ | refine bA_ ?_ _)); refine bP_ (cs := #[.int .i64 0, .int .i64 0, .int .i64 0, .int .i64 0, .int .i64 0, .int .i64 0, .int .i64 0, .int .i64 0, .int .i64 0]) ?_ 0 _ rfl; (with_reducible repeat (first | refine bN_ ?_ _ | refine bD_ ?_ | refine bA_ ?_ _)); exact BK248.out) Try.underlying89 rfl (by kernel_rfl)) rfl ?_
        exact ⟨by first | rfl | (simp [errW_none, errW_some] <;> rfl) | (simp [*, errW_none, errW_some] <;> rfl), by repeat (first | (with_reducible first | exact HI0.out | apply I81_.alloc | apply I81_.drewN | apply I81_.drew | apply I81_.set_1 | refine I81_.far ?_ NB0_248.out _ | refine I81_.far ?_ NB0_268.out _) | exact HI0.out), by repeat (first | (with_reducible first | exact HB.out | apply eA_ | apply pN_ | apply eD_ | refine eS_ ?_ (I81_.ge HI0.out) | refine eS_ ?_ GE248.out | refine eS_ ?_ GE268.out) | exact HB.out), by repeat (first | (with_reducible first | exact HK.out | apply KeepBut.set_ | apply kN_ | apply kD_ | apply kA_ | refine kF_ ?_ GW248.out _ | refine kF_ ?_ GW268.out _) | exact HK.out)⟩
       ·rw [if_neg c59] at H
        have c59b0 : decide (0 < t277) = false := decide_eq_false c59
        clear c59
        replace H := Option.bind_eq_some_iff.mp H
        obtain ⟨⟨t279, t280⟩, A660, H⟩ := H
        replace H : (if t279 = 0 then ((some (([(-1), 4] : List Int) : List Int)).bind fun y281 => ((spec_l20Rd_pick.f kj42 s0_0 t280 2).bind fun bt284 => (if 0 ≤ bt284.1 then (if bt284.1 < (y281.length : Int) then (some (rd y281 bt284.1, x269001_42, x269002_42, x269003_42, x269004_42, x269005_42, x269006_42, x269007_42, x269008_42, bt284.2)) else (none)) else (none)))) else (if t279 = 1 then ((spec_l20Win.f kj42 s0_0 t280 1).bind fun bt287 => (some (x269000_42, bt287.1, bt287.2.1, x269003_42, x269004_42, x269005_42, x269006_42, x269007_42, x269008_42, bt287.2.2))) else (if t279 = 2 then ((some (([(-1), 0, 1, 1500, 1501] : List Int) : List Int)).bind fun y290 => ((spec_l20Rd_pick.f kj42 s0_0 t280 5).bind fun bt293 => (if 0 ≤ bt293.1 then (if bt293.1 < (y290.length : Int) then (some (x269000_42, x269001_42, x269002_42, rd y290 bt293.1, x269004_42, x269005_42, x269006_42, x269007_42, x269008_42, bt293.2)) else (none)) else (none)))) else (if t279 = 3 then ((spec_l20Rd_pick.f kj42 s0_0 t280 5).bind fun bt296 => (some (x269000_42, x269001_42, x269002_42, x269003_42, bt296.1, x269005_42, x269006_42, x269007_42, x269008_42, bt296.2))) else ((spec_l20Agg.f kj42 s0_0 t280 1).bind fun bt298 => (some (x269000_42, x269001_42, x269002_42, x269003_42, x269004_42, bt298.1, bt298.2.1, bt298.2.2.1, bt298.2.2.2.1, bt298.2.2.2.2))))))) = some (r1, r2, r3, r4, r5, r6, r7, r8, r9, r10) := H
        have A66 := Az_.mk A660
        clear A660
        by_cases c67 : t279 = 0
        ·rw [if_pos c67] at H
         have c67b0 : (t279 == 0) = true := beq_iff_eq.mpr c67
         have c67b1 : (t279 != 0) = false := bne_eq_false_iff_eq.mpr c67
         clear c67
         obtain ⟨y281, hy281⟩ : ∃ y_ : List Int, y_ = (([(-1), 4] : List Int)) := ⟨_, rfl⟩
         replace H : ((spec_l20Rd_pick.f kj42 s0_0 t280 2).bind fun bt284 => (if 0 ≤ bt284.1 then (if bt284.1 < (y281.length : Int) then (some (rd y281 bt284.1, x269001_42, x269002_42, x269003_42, x269004_42, x269005_42, x269006_42, x269007_42, x269008_42, bt284.2)) else (none)) else (none))) = some (r1, r2, r3, r4, r5, r6, r7, r8, r9, r10) := by first | (rw [hy281]; with_reducible exact H) | (have H2_ := (Option.bind_some _ _).symm.trans H; rw [hy281]; with_reducible exact H2_) | (have H2_ := (Option.bind_some _ _).symm.trans H; with_reducible exact H2_) | with_reducible exact H | (rw [hy281]; exact H) | exact H
         have Ny281 := Az_.mk hy281
         clear hy281
         replace H := Option.bind_eq_some_iff.mp H
         obtain ⟨⟨t284, t285⟩, A680, H⟩ := H
         replace H : (if 0 ≤ t284 then (if t284 < (y281.length : Int) then (some (rd y281 t284, x269001_42, x269002_42, x269003_42, x269004_42, x269005_42, x269006_42, x269007_42, x269008_42, t285)) else (none)) else (none)) = some (r1, r2, r3, r4, r5, r6, r7, r8, r9, r10) := H
         have A68 := Az_.mk A680
         clear A680
         by_cases c69 : 0 ≤ t284
         ·rw [if_pos c69] at H
          have c69b0 : decide (0 ≤ t284) = true := decide_eq_true c69
          clear c69
          by_cases c70 : t284 < (y281.length : Int)
          ·rw [if_pos c70] at H
           have c70b0 : decide (t284 < (y281.length : Int)) = true := decide_eq_true c70
           clear c70
           simp only [Option.some.injEq, Prod.mk.injEq] at H
           obtain ⟨rfl, rfl, rfl, rfl, rfl, rfl, rfl, rfl, rfl, rfl⟩ := H
           go_wp2_with (first | ((with_reducible refine gate_callee (f := 53) rfl ?_); refine goesL_ (some 44) rfl rfl Try.func53 (by kernel_rfl) rfl #[.pointer (some ⟨g, 0, none⟩), .int .i64 a1] rfl (by (try simp only [List.map_toArray, List.map_cons, List.map_nil]); first | done | rfl | (simp only [List.length_drop, List.length_take]; rfl)) ?_; (with_reducible refine (spec_l20Rd_pick.calls kj42 g s0_0 x1001_42 a1 t277 t278 w0 _ ?side1 ?side2 A58.out).mono ?_); (case side1 => repeat (first | (with_reducible first | exact HI0.out | apply I81_.alloc | apply I81_.drewN | apply I81_.drew | apply I81_.set_1 | refine I81_.far ?_ NB0_248.out _ | refine I81_.far ?_ NB0_268.out _) | exact HI0.out)); (case side2 => repeat (first | (with_reducible first | exact HB.out | apply eA_ | apply pN_ | apply eD_ | refine eS_ ?_ (I81_.ge HI0.out) | refine eS_ ?_ GE248.out | refine eS_ ?_ GE268.out) | exact HB.out)); rintro e w71 ⟨rfl, hi, hb, hk⟩; refine ⟨_, rfl, ?_⟩; have n0_ := Az_.mk (KeepBut.blk hk (g' := gb248) (o := .cells #[.int .i64 0, .int .i64 0, .int .i64 0, .int .i64 0, .int .i64 0, .int .i64 0, .int .i64 0, .int .i64 0, .int .i64 0] 89 (0, 0)) (by (with_reducible repeat (first | refine bN_ ?_ _ | refine bD_ ?_ | refine bA_ ?_ _)); exact BK248.out) NB248_0.out (by simp)); have n1_ := Az_.mk (KeepBut.blk hk (g' := gb268) (o := .cells #[.int .i64 x269000_42, .int .i64 x269001_42, .int .i64 x269002_42, .int .i64 x269003_42, .int .i64 x269004_42, .int .i64 x269005_42, .int .i64 x269006_42, .int .i64 x269007_42, .int .i64 x269008_42] 89 (0, 0)) (by (with_reducible repeat (first | refine bN_ ?_ _ | refine bD_ ?_ | refine bA_ ?_ _)); exact BK268.out) NB268_0.out (by simp)); have n2_ := Az_.mk (KeepBut.trans (by repeat (first | (with_reducible first | exact HK.out | apply KeepBut.set_ | apply kN_ | apply kD_ | apply kA_ | refine kF_ ?_ GW248.out _ | refine kF_ ?_ GW268.out _) | exact HK.out)) hk (.inl rfl)); have n3_ := Az_.mk (hb); have n4_ := Az_.mk (hi); clear BK248; clear BK268; clear HK; clear HB; clear HI0; have BK248 := n0_; have BK268 := n1_; have HK := n2_; have HB := n3_; have HI0 := n4_; clear n0_ n1_ n2_ n3_ n4_; (try clear hb); (try clear hb2); (try clear hk); (try clear hi)) | ((with_reducible refine gate_callee (f := 53) rfl ?_); refine goesL_ (some 48) rfl rfl Try.func53 (by kernel_rfl) rfl #[.pointer (some ⟨g, 0, none⟩), .int .i64 5] rfl (by (try simp only [List.map_toArray, List.map_cons, List.map_nil]); first | done | rfl | (simp only [List.length_drop, List.length_take]; rfl)) ?_; (with_reducible refine (spec_l20Rd_pick.calls kj42 g s0_0 t278 5 t279 t280 w0 _ ?side1 ?side2 A66.out).mono ?_); (case side1 => repeat (first | (with_reducible first | exact HI0.out | apply I81_.alloc | apply I81_.drewN | apply I81_.drew | apply I81_.set_1 | refine I81_.far ?_ NB0_248.out _ | refine I81_.far ?_ NB0_268.out _) | exact HI0.out)); (case side2 => repeat (first | (with_reducible first | exact HB.out | apply eA_ | apply pN_ | apply eD_ | refine eS_ ?_ (I81_.ge HI0.out) | refine eS_ ?_ GE248.out | refine eS_ ?_ GE268.out) | exact HB.out)); rintro e w72 ⟨rfl, hi, hb, hk⟩; refine ⟨_, rfl, ?_⟩; have n0_ := Az_.mk (KeepBut.blk hk (g' := gb248) (o := .cells #[.int .i64 0, .int .i64 0, .int .i64 0, .int .i64 0, .int .i64 0, .int .i64 0, .int .i64 0, .int .i64 0, .int .i64 0] 89 (0, 0)) (by (with_reducible repeat (first | refine bN_ ?_ _ | refine bD_ ?_ | refine bA_ ?_ _)); exact BK248.out) NB248_0.out (by simp)); have n1_ := Az_.mk (KeepBut.blk hk (g' := gb268) (o := .cells #[.int .i64 x269000_42, .int .i64 x269001_42, .int .i64 x269002_42, .int .i64 x269003_42, .int .i64 x269004_42, .int .i64 x269005_42, .int .i64 x269006_42, .int .i64 x269007_42, .int .i64 x269008_42] 89 (0, 0)) (by (with_reducible repeat (first | refine bN_ ?_ _ | refine bD_ ?_ | refine bA_ ?_ _)); exact BK268.out) NB268_0.out (by simp)); have n2_ := Az_.mk (KeepBut.trans (by repeat (first | (with_reducible first | exact HK.out | apply KeepBut.set_ | apply kN_ | apply kD_ | apply kA_ | refine kF_ ?_ GW248.out _ | refine kF_ ?_ GW268.out _) | exact HK.out)) hk (.inl rfl)); have n3_ := Az_.mk (hb); have n4_ := Az_.mk (hi); clear BK248; clear BK268; clear HK; clear HB; clear HI0; have BK248 := n0_; have BK268 := n1_; have HK := n2_; have HB := n3_; have HI0 := n4_; clear n0_ n1_ n2_ n3_ n4_; (try clear hb); (try clear hb2); (try clear hk); (try clear hi)) | ((with_reducible refine gate_dst (N := 54) rfl ?_); refine Kd.R_lit (Kd.int .i64) _ 3 ?hg (N := 54) ?hd (xs := ([(-1), 4] : List Int)) (inner := [.int .i64 (-1), .int .i64 4]) (ok := fun _ => True) (okp := fun _ => True) ?hr ?hp (fun _ hk => hk) trivial (Below.refl _ _) (Nat.le_refl _) (by simp) ?_; (case hd => rfl); (case hg => rfl); (case hr => first | (go_simp; done) | (go_simp; rfl)); (case hp => exact (Reps.one (show Kd.M (Kd.int .i64) _ _ _ (-1) [.int .i64 (-1)] from rfl) (Reps.one (show Kd.M (Kd.int .i64) _ _ _ 4 [.int .i64 4] from rfl) (Reps.none _ _)))); intro v282 w73 ho74 hb hg_ hnew_; clear hg_ hnew_; (first | rw [← Ny281.out] at ho74 | (simp only [Int.reduceToNat] at ho74; rw [← Ny281.out] at ho74)); have n0_ := Az_.mk (Kd.R_lower ho74 (keep_size (w := w) (g := g) (row := none) (by repeat (first | (with_reducible first | exact HK.out | apply KeepBut.set_ | apply kN_ | apply kD_ | apply kA_ | refine kF_ ?_ GW248.out _ | refine kF_ ?_ GW268.out _) | exact HK.out)))); have n1_ := Az_.mk (bB_ (g := gb248) (o := .cells #[.int .i64 0, .int .i64 0, .int .i64 0, .int .i64 0, .int .i64 0, .int .i64 0, .int .i64 0, .int .i64 0, .int .i64 0] 89 (0, 0)) (by (with_reducible repeat (first | refine bN_ ?_ _ | refine bD_ ?_ | refine bA_ ?_ _)); exact BK248.out) hb); have n2_ := Az_.mk (bB_ (g := gb268) (o := .cells #[.int .i64 x269000_42, .int .i64 x269001_42, .int .i64 x269002_42, .int .i64 x269003_42, .int .i64 x269004_42, .int .i64 x269005_42, .int .i64 x269006_42, .int .i64 x269007_42, .int .i64 x269008_42] 89 (0, 0)) (by (with_reducible repeat (first | refine bN_ ?_ _ | refine bD_ ?_ | refine bA_ ?_ _)); exact BK268.out) hb); have n3_ := Az_.mk (I81_.below (by repeat (first | (with_reducible first | exact HI0.out | apply I81_.alloc | apply I81_.drewN | apply I81_.drew | apply I81_.set_1 | refine I81_.far ?_ NB0_248.out _ | refine I81_.far ?_ NB0_268.out _) | exact HI0.out)) hb); have n4_ := Az_.mk (KeepBut.trans (by repeat (first | (with_reducible first | exact HK.out | apply KeepBut.set_ | apply kN_ | apply kD_ | apply kA_ | refine kF_ ?_ GW248.out _ | refine kF_ ?_ GW268.out _) | exact HK.out)) (KeepBut.of_below hb g none) (.inl rfl)); have n5_ := Az_.mk (below_step (by repeat (first | (with_reducible first | exact HB.out | apply eA_ | apply pN_ | apply eD_ | refine eS_ ?_ (I81_.ge HI0.out) | refine eS_ ?_ GE248.out | refine eS_ ?_ GE268.out) | exact HB.out)) hb); clear BK248; clear BK268; clear HI0; clear HK; clear HB; have HO283 := n0_; have BK248 := n1_; have BK268 := n2_; have HI0 := n3_; have HK := n4_; have HB := n5_; clear n0_ n1_ n2_ n3_ n4_ n5_; clear hb ho74) | ((with_reducible refine gate_callee (f := 53) rfl ?_); refine goesL_ (some 56) rfl rfl Try.func53 (by kernel_rfl) rfl #[.pointer (some ⟨g, 0, none⟩), .int .i64 2] rfl (by (try simp only [List.map_toArray, List.map_cons, List.map_nil]); first | done | rfl | (simp only [List.length_drop, List.length_take]; rfl)) ?_; (with_reducible refine (spec_l20Rd_pick.calls kj42 g s0_0 t280 2 t284 t285 w0 _ ?side1 ?side2 A68.out).mono ?_); (case side1 => repeat (first | (with_reducible first | exact HI0.out | apply I81_.alloc | apply I81_.drewN | apply I81_.drew | apply I81_.set_1 | refine I81_.far ?_ NB0_248.out _ | refine I81_.far ?_ NB0_268.out _) | exact HI0.out)); (case side2 => repeat (first | (with_reducible first | exact HB.out | apply eA_ | apply pN_ | apply eD_ | refine eS_ ?_ (I81_.ge HI0.out) | refine eS_ ?_ GE248.out | refine eS_ ?_ GE268.out) | exact HB.out)); rintro e w75 ⟨rfl, hi, hb, hk⟩; refine ⟨_, rfl, ?_⟩; have n0_ := Az_.mk (KeepBut.blk hk (g' := gb248) (o := .cells #[.int .i64 0, .int .i64 0, .int .i64 0, .int .i64 0, .int .i64 0, .int .i64 0, .int .i64 0, .int .i64 0, .int .i64 0] 89 (0, 0)) (by (with_reducible repeat (first | refine bN_ ?_ _ | refine bD_ ?_ | refine bA_ ?_ _)); exact BK248.out) NB248_0.out (by simp)); have n1_ := Az_.mk (KeepBut.blk hk (g' := gb268) (o := .cells #[.int .i64 x269000_42, .int .i64 x269001_42, .int .i64 x269002_42, .int .i64 x269003_42, .int .i64 x269004_42, .int .i64 x269005_42, .int .i64 x269006_42, .int .i64 x269007_42, .int .i64 x269008_42] 89 (0, 0)) (by (with_reducible repeat (first | refine bN_ ?_ _ | refine bD_ ?_ | refine bA_ ?_ _)); exact BK268.out) NB268_0.out (by simp)); have n2_ := Az_.mk (Kd.R_mono (Kd.R_keep (I81_.apart (show I81_ w0 _ g s0_0 t280 from by repeat (first | (with_reducible first | exact HI0.out | apply I81_.alloc | apply I81_.drewN | apply I81_.drew | apply I81_.set_1 | refine I81_.far ?_ NB0_248.out _ | refine I81_.far ?_ NB0_268.out _) | exact HI0.out)) (by (with_reducible repeat (first | apply Kd.R_alloc | apply Kd.R_drewN | apply Kd.R_drew)); exact HO283.out) (by decide)) hk (fun _ h => h.2)) (fun _ h => h.1)); have n3_ := Az_.mk (KeepBut.trans (by repeat (first | (with_reducible first | exact HK.out | apply KeepBut.set_ | apply kN_ | apply kD_ | apply kA_ | refine kF_ ?_ GW248.out _ | refine kF_ ?_ GW268.out _) | exact HK.out)) hk (.inl rfl)); have n4_ := Az_.mk (hb); have n5_ := Az_.mk (hi); clear BK248; clear BK268; clear HO283; clear HK; clear HB; clear HI0; have BK248 := n0_; have BK268 := n1_; have HO283 := n2_; have HK := n3_; have HB := n4_; have HI0 := n5_; clear n0_ n1_ n2_ n3_ n4_ n5_; (try clear hb); (try clear hb2); (try clear hk); (try clear hi); obtain ⟨Ao76, co76, eo76⟩ := Kd.R_slice HO283.out; subst eo76; have p286 : 0 ≤ (t284 : Int) := of_decide_eq_true (by first | (with_reducible assumption) | assumption); have q286 : t284 < (y281.length : Int) := of_decide_eq_true (by first | (with_reducible assumption) | assumption); obtain ⟨ad286, e286, hx286_0⟩ := Kd.at_int (Kd.R_reads' HO283.out).2.2 t284 p286 q286; cases e286; replace p286 := eq_true p286; replace q286 := eq_true q286; have hnb77 := NB268_248.out; have hnc77 := NB248_268.out; have hnb78 := NB268_0.out; have hnc78 := NB0_268.out; have hcz79_0 : w75.cell? ⟨gb268, 0, none⟩ = some (.int .i64 x269000_42) := (bC_ BK268.out 0).trans rfl; have hcz79_1 : w75.cell? ⟨gb268, 1, none⟩ = some (.int .i64 x269001_42) := (bC_ BK268.out 1).trans rfl; have hcz79_2 : w75.cell? ⟨gb268, 2, none⟩ = some (.int .i64 x269002_42) := (bC_ BK268.out 2).trans rfl; have hcz79_3 : w75.cell? ⟨gb268, 3, none⟩ = some (.int .i64 x269003_42) := (bC_ BK268.out 3).trans rfl; have hcz79_4 : w75.cell? ⟨gb268, 4, none⟩ = some (.int .i64 x269004_42) := (bC_ BK268.out 4).trans rfl; have hcz79_5 : w75.cell? ⟨gb268, 5, none⟩ = some (.int .i64 x269005_42) := (bC_ BK268.out 5).trans rfl; have hcz79_6 : w75.cell? ⟨gb268, 6, none⟩ = some (.int .i64 x269006_42) := (bC_ BK268.out 6).trans rfl; have hcz79_7 : w75.cell? ⟨gb268, 7, none⟩ = some (.int .i64 x269007_42) := (bC_ BK268.out 7).trans rfl; have hcz79_8 : w75.cell? ⟨gb268, 8, none⟩ = some (.int .i64 x269008_42) := (bC_ BK268.out 8).trans rfl; have hfz79_0 := bF_ BK268.out 0; have hfz79_1 := bF_ BK268.out 1; have hfz79_2 := bF_ BK268.out 2; have hfz79_3 := bF_ BK268.out 3; have hfz79_4 := bF_ BK268.out 4; have hfz79_5 := bF_ BK268.out 5; have hfz79_6 := bF_ BK268.out 6; have hfz79_7 := bF_ BK268.out 7; have hfz79_8 := bF_ BK268.out 8; have hnb80 := NB248_0.out; have hnc80 := NB0_248.out; have hcz81_0 : w75.cell? ⟨gb248, 0, none⟩ = some (.int .i64 0) := (bC_ BK248.out 0).trans rfl; have hcz81_1 : w75.cell? ⟨gb248, 1, none⟩ = some (.int .i64 0) := (bC_ BK248.out 1).trans rfl; have hcz81_2 : w75.cell? ⟨gb248, 2, none⟩ = some (.int .i64 0) := (bC_ BK248.out 2).trans rfl; have hcz81_3 : w75.cell? ⟨gb248, 3, none⟩ = some (.int .i64 0) := (bC_ BK248.out 3).trans rfl; have hcz81_4 : w75.cell? ⟨gb248, 4, none⟩ = some (.int .i64 0) := (bC_ BK248.out 4).trans rfl; have hcz81_5 : w75.cell? ⟨gb248, 5, none⟩ = some (.int .i64 0) := (bC_ BK248.out 5).trans rfl; have hcz81_6 : w75.cell? ⟨gb248, 6, none⟩ = some (.int .i64 0) := (bC_ BK248.out 6).trans rfl; have hcz81_7 : w75.cell? ⟨gb248, 7, none⟩ = some (.int .i64 0) := (bC_ BK248.out 7).trans rfl; have hcz81_8 : w75.cell? ⟨gb248, 8, none⟩ = some (.int .i64 0) := (bC_ BK248.out 8).trans rfl; have hfz81_0 := bF_ BK248.out 0; have hfz81_1 := bF_ BK248.out 1; have hfz81_2 := bF_ BK248.out 2; have hfz81_3 := bF_ BK248.out 3; have hfz81_4 := bF_ BK248.out 4; have hfz81_5 := bF_ BK248.out 5; have hfz81_6 := bF_ BK248.out 6; have hfz81_7 := bF_ BK248.out 7; have hfz81_8 := bF_ BK248.out 8))
           refine bodyPost_ret (results_cell_row rfl _ _ gb248 89 #[.int .i64 (rd y281 t284), .int .i64 x269001_42, .int .i64 x269002_42, .int .i64 x269003_42, .int .i64 x269004_42, .int .i64 x269005_42, .int .i64 x269006_42, .int .i64 x269007_42, .int .i64 x269008_42] (0, 0) _ rfl (by (with_reducible repeat (first | refine bN_ ?_ _ | refine bD_ ?_ | refine bA_ ?_ _)); refine bP_ (cs := #[.int .i64 (rd y281 t284), .int .i64 x269001_42, .int .i64 x269002_42, .int .i64 x269003_42, .int .i64 x269004_42, .int .i64 x269005_42, .int .i64 x269006_42, .int .i64 x269007_42, .int .i64 0]) ?_ 8 _ rfl; (with_reducible repeat (first | refine bN_ ?_ _ | refine bD_ ?_ | refine bA_ ?_ _)); refine bP_ (cs := #[.int .i64 (rd y281 t284), .int .i64 x269001_42, .int .i64 x269002_42, .int .i64 x269003_42, .int .i64 x269004_42, .int .i64 x269005_42, .int .i64 x269006_42, .int .i64 0, .int .i64 0]) ?_ 7 _ rfl; (with_reducible repeat (first | refine bN_ ?_ _ | refine bD_ ?_ | refine bA_ ?_ _)); refine bP_ (cs := #[.int .i64 (rd y281 t284), .int .i64 x269001_42, .int .i64 x269002_42, .int .i64 x269003_42, .int .i64 x269004_42, .int .i64 x269005_42, .int .i64 0, .int .i64 0, .int .i64 0]) ?_ 6 _ rfl; (with_reducible repeat (first | refine bN_ ?_ _ | refine bD_ ?_ | refine bA_ ?_ _)); refine bP_ (cs := #[.int .i64 (rd y281 t284), .int .i64 x269001_42, .int .i64 x269002_42, .int .i64 x269003_42, .int .i64 x269004_42, .int .i64 0, .int .i64 0, .int .i64 0, .int .i64 0]) ?_ 5 _ rfl; (with_reducible repeat (first | refine bN_ ?_ _ | refine bD_ ?_ | refine bA_ ?_ _)); refine bP_ (cs := #[.int .i64 (rd y281 t284), .int .i64 x269001_42, .int .i64 x269002_42, .int .i64 x269003_42, .int .i64 0, .int .i64 0, .int .i64 0, .int .i64 0, .int .i64 0]) ?_ 4 _ rfl; (with_reducible repeat (first | refine bN_ ?_ _ | refine bD_ ?_ | refine bA_ ?_ _)); refine bP_ (cs := #[.int .i64 (rd y281 t284), .int .i64 x269001_42, .int .i64 x269002_42, .int .i64 0, .int .i64 0, .int .i64 0, .int .i64 0, .int .i64 0, .int .i64 0]) ?_ 3 _ rfl; (with_reducible repeat (first | refine bN_ ?_ _ | refine bD_ ?_ | refine bA_ ?_ _)); refine bP_ (cs := #[.int .i64 (rd y281 t284), .int .i64 x269001_42, .int .i64 0, .int .i64 0, .int .i64 0, .int .i64 0, .int .i64 0, .int .i64 0, .int .i64 0]) ?_ 2 _ rfl; (with_reducible repeat (first | refine bN_ ?_ _ | refine bD_ ?_ | refine bA_ ?_ _)); refine bP_ (cs := #[.int .i64 (rd y281 t284), .int .i64 0, .int .i64 0, .int .i64 0, .int .i64 0, .int .i64 0, .int .i64 0, .int .i64 0, .int .i64 0]) ?_ 1 _ rfl; (with_reducible repeat (first | refine bN_ ?_ _ | refine bD_ ?_ | refine bA_ ?_ _)); refine bP_ (cs := #[.int .i64 0, .int .i64 0, .int .i64 0, .int .i64 0, .int .i64 0, .int .i64 0, .int .i64 0, .int .i64 0, .int .i64 0]) ?_ 0 _ rfl; (with_reducible repeat (first | refine bN_ ?_ _ | refine bD_ ?_ | refine bA_ ?_ _)); refine bR_ ?_ NB248_268.out _; (with_reducible repeat (first | refine bN_ ?_ _ | refine bD_ ?_ | refine bA_ ?_ _)); exact BK248.out) Try.underlying89 rfl (by kernel_rfl)) rfl ?_
           exact ⟨by first | rfl | (simp [errW_none, errW_some] <;> rfl) | (simp [*, errW_none, errW_some] <;> rfl), by repeat (first | (with_reducible first | exact HI0.out | apply I81_.alloc | apply I81_.drewN | apply I81_.drew | apply I81_.set_1 | refine I81_.far ?_ NB0_248.out _ | refine I81_.far ?_ NB0_268.out _) | exact HI0.out), by repeat (first | (with_reducible first | exact HB.out | apply eA_ | apply pN_ | apply eD_ | refine eS_ ?_ (I81_.ge HI0.out) | refine eS_ ?_ GE248.out | refine eS_ ?_ GE268.out) | exact HB.out), by repeat (first | (with_reducible first | exact HK.out | apply KeepBut.set_ | apply kN_ | apply kD_ | apply kA_ | refine kF_ ?_ GW248.out _ | refine kF_ ?_ GW268.out _) | exact HK.out)⟩
          ·rw [if_neg c70] at H
           exact absurd H (by simp)
         ·rw [if_neg c69] at H
          exact absurd H (by simp)
        ·rw [if_neg c67] at H
         have c67b0 : (t279 == 0) = false := beq_eq_false_iff_ne.mpr c67
         have c67b1 : (t279 != 0) = true := bne_iff_ne.mpr c67
         by_cases c82 : t279 = 1
         ·rw [if_pos c82] at H
          have c82b0 : (t279 == 1) = true := beq_iff_eq.mpr c82
          have c82b1 : (t279 != 1) = false := bne_eq_false_iff_eq.mpr c82
          clear c82
          replace H := Option.bind_eq_some_iff.mp H
          obtain ⟨⟨t287, t288, t289⟩, A830, H⟩ := H
          replace H : (some (x269000_42, t287, t288, x269003_42, x269004_42, x269005_42, x269006_42, x269007_42, x269008_42, t289)) = some (r1, r2, r3, r4, r5, r6, r7, r8, r9, r10) := H
          have A83 := Az_.mk A830
          clear A830
          simp only [Option.some.injEq, Prod.mk.injEq] at H
          obtain ⟨rfl, rfl, rfl, rfl, rfl, rfl, rfl, rfl, rfl, rfl⟩ := H
          go_wp2_with (first | ((with_reducible refine gate_callee (f := 53) rfl ?_); refine goesL_ (some 44) rfl rfl Try.func53 (by kernel_rfl) rfl #[.pointer (some ⟨g, 0, none⟩), .int .i64 a1] rfl (by (try simp only [List.map_toArray, List.map_cons, List.map_nil]); first | done | rfl | (simp only [List.length_drop, List.length_take]; rfl)) ?_; (with_reducible refine (spec_l20Rd_pick.calls kj42 g s0_0 x1001_42 a1 t277 t278 w0 _ ?side1 ?side2 A58.out).mono ?_); (case side1 => repeat (first | (with_reducible first | exact HI0.out | apply I81_.alloc | apply I81_.drewN | apply I81_.drew | apply I81_.set_1 | refine I81_.far ?_ NB0_248.out _ | refine I81_.far ?_ NB0_268.out _) | exact HI0.out)); (case side2 => repeat (first | (with_reducible first | exact HB.out | apply eA_ | apply pN_ | apply eD_ | refine eS_ ?_ (I81_.ge HI0.out) | refine eS_ ?_ GE248.out | refine eS_ ?_ GE268.out) | exact HB.out)); rintro e w84 ⟨rfl, hi, hb, hk⟩; refine ⟨_, rfl, ?_⟩; have n0_ := Az_.mk (KeepBut.blk hk (g' := gb248) (o := .cells #[.int .i64 0, .int .i64 0, .int .i64 0, .int .i64 0, .int .i64 0, .int .i64 0, .int .i64 0, .int .i64 0, .int .i64 0] 89 (0, 0)) (by (with_reducible repeat (first | refine bN_ ?_ _ | refine bD_ ?_ | refine bA_ ?_ _)); exact BK248.out) NB248_0.out (by simp)); have n1_ := Az_.mk (KeepBut.blk hk (g' := gb268) (o := .cells #[.int .i64 x269000_42, .int .i64 x269001_42, .int .i64 x269002_42, .int .i64 x269003_42, .int .i64 x269004_42, .int .i64 x269005_42, .int .i64 x269006_42, .int .i64 x269007_42, .int .i64 x269008_42] 89 (0, 0)) (by (with_reducible repeat (first | refine bN_ ?_ _ | refine bD_ ?_ | refine bA_ ?_ _)); exact BK268.out) NB268_0.out (by simp)); have n2_ := Az_.mk (KeepBut.trans (by repeat (first | (with_reducible first | exact HK.out | apply KeepBut.set_ | apply kN_ | apply kD_ | apply kA_ | refine kF_ ?_ GW248.out _ | refine kF_ ?_ GW268.out _) | exact HK.out)) hk (.inl rfl)); have n3_ := Az_.mk (hb); have n4_ := Az_.mk (hi); clear BK248; clear BK268; clear HK; clear HB; clear HI0; have BK248 := n0_; have BK268 := n1_; have HK := n2_; have HB := n3_; have HI0 := n4_; clear n0_ n1_ n2_ n3_ n4_; (try clear hb); (try clear hb2); (try clear hk); (try clear hi)) | ((with_reducible refine gate_callee (f := 53) rfl ?_); refine goesL_ (some 48) rfl rfl Try.func53 (by kernel_rfl) rfl #[.pointer (some ⟨g, 0, none⟩), .int .i64 5] rfl (by (try simp only [List.map_toArray, List.map_cons, List.map_nil]); first | done | rfl | (simp only [List.length_drop, List.length_take]; rfl)) ?_; (with_reducible refine (spec_l20Rd_pick.calls kj42 g s0_0 t278 5 t279 t280 w0 _ ?side1 ?side2 A66.out).mono ?_); (case side1 => repeat (first | (with_reducible first | exact HI0.out | apply I81_.alloc | apply I81_.drewN | apply I81_.drew | apply I81_.set_1 | refine I81_.far ?_ NB0_248.out _ | refine I81_.far ?_ NB0_268.out _) | exact HI0.out)); (case side2 => repeat (first | (with_reducible first | exact HB.out | apply eA_ | apply pN_ | apply eD_ | refine eS_ ?_ (I81_.ge HI0.out) | refine eS_ ?_ GE248.out | refine eS_ ?_ GE268.out) | exact HB.out)); rintro e w85 ⟨rfl, hi, hb, hk⟩; refine ⟨_, rfl, ?_⟩; have n0_ := Az_.mk (KeepBut.blk hk (g' := gb248) (o := .cells #[.int .i64 0, .int .i64 0, .int .i64 0, .int .i64 0, .int .i64 0, .int .i64 0, .int .i64 0, .int .i64 0, .int .i64 0] 89 (0, 0)) (by (with_reducible repeat (first | refine bN_ ?_ _ | refine bD_ ?_ | refine bA_ ?_ _)); exact BK248.out) NB248_0.out (by simp)); have n1_ := Az_.mk (KeepBut.blk hk (g' := gb268) (o := .cells #[.int .i64 x269000_42, .int .i64 x269001_42, .int .i64 x269002_42, .int .i64 x269003_42, .int .i64 x269004_42, .int .i64 x269005_42, .int .i64 x269006_42, .int .i64 x269007_42, .int .i64 x269008_42] 89 (0, 0)) (by (with_reducible repeat (first | refine bN_ ?_ _ | refine bD_ ?_ | refine bA_ ?_ _)); exact BK268.out) NB268_0.out (by simp)); have n2_ := Az_.mk (KeepBut.trans (by repeat (first | (with_reducible first | exact HK.out | apply KeepBut.set_ | apply kN_ | apply kD_ | apply kA_ | refine kF_ ?_ GW248.out _ | refine kF_ ?_ GW268.out _) | exact HK.out)) hk (.inl rfl)); have n3_ := Az_.mk (hb); have n4_ := Az_.mk (hi); clear BK248; clear BK268; clear HK; clear HB; clear HI0; have BK248 := n0_; have BK268 := n1_; have HK := n2_; have HB := n3_; have HI0 := n4_; clear n0_ n1_ n2_ n3_ n4_; (try clear hb); (try clear hb2); (try clear hk); (try clear hi)) | ((with_reducible refine gate_callee (f := 67) rfl ?_); refine goesL_ (some 63) rfl rfl Try.func67 (by kernel_rfl) rfl #[.pointer (some ⟨g, 0, none⟩), .int .i64 1] rfl (by (try simp only [List.map_toArray, List.map_cons, List.map_nil]); first | done | rfl | (simp only [List.length_drop, List.length_take]; rfl)) ?_; (with_reducible refine (spec_l20Win.calls kj42 g s0_0 t280 1 t287 t288 t289 w0 _ ?side1 ?side2 A83.out).mono ?_); (case side1 => repeat (first | (with_reducible first | exact HI0.out | apply I81_.alloc | apply I81_.drewN | apply I81_.drew | apply I81_.set_1 | refine I81_.far ?_ NB0_248.out _ | refine I81_.far ?_ NB0_268.out _) | exact HI0.out)); (case side2 => repeat (first | (with_reducible first | exact HB.out | apply eA_ | apply pN_ | apply eD_ | refine eS_ ?_ (I81_.ge HI0.out) | refine eS_ ?_ GE248.out | refine eS_ ?_ GE268.out) | exact HB.out)); rintro e w86 ⟨rfl, hi, hb, hk⟩; refine ⟨_, rfl, ?_⟩; have n0_ := Az_.mk (KeepBut.blk hk (g' := gb248) (o := .cells #[.int .i64 0, .int .i64 0, .int .i64 0, .int .i64 0, .int .i64 0, .int .i64 0, .int .i64 0, .int .i64 0, .int .i64 0] 89 (0, 0)) (by (with_reducible repeat (first | refine bN_ ?_ _ | refine bD_ ?_ | refine bA_ ?_ _)); exact BK248.out) NB248_0.out (by simp)); have n1_ := Az_.mk (KeepBut.blk hk (g' := gb268) (o := .cells #[.int .i64 x269000_42, .int .i64 x269001_42, .int .i64 x269002_42, .int .i64 x269003_42, .int .i64 x269004_42, .int .i64 x269005_42, .int .i64 x269006_42, .int .i64 x269007_42, .int .i64 x269008_42] 89 (0, 0)) (by (with_reducible repeat (first | refine bN_ ?_ _ | refine bD_ ?_ | refine bA_ ?_ _)); exact BK268.out) NB268_0.out (by simp)); have n2_ := Az_.mk (KeepBut.trans (by repeat (first | (with_reducible first | exact HK.out | apply KeepBut.set_ | apply kN_ | apply kD_ | apply kA_ | refine kF_ ?_ GW248.out _ | refine kF_ ?_ GW268.out _) | exact HK.out)) hk (.inl rfl)); have n3_ := Az_.mk (hb); have n4_ := Az_.mk (hi); clear BK248; clear BK268; clear HK; clear HB; clear HI0; have BK248 := n0_; have BK268 := n1_; have HK := n2_; have HB := n3_; have HI0 := n4_; clear n0_ n1_ n2_ n3_ n4_; (try clear hb); (try clear hb2); (try clear hk); (try clear hi); have hnb87 := NB268_248.out; have hnc87 := NB248_268.out; have hnb88 := NB268_0.out; have hnc88 := NB0_268.out; have hcz89_0 : w86.cell? ⟨gb268, 0, none⟩ = some (.int .i64 x269000_42) := (bC_ BK268.out 0).trans rfl; have hcz89_1 : w86.cell? ⟨gb268, 1, none⟩ = some (.int .i64 x269001_42) := (bC_ BK268.out 1).trans rfl; have hcz89_2 : w86.cell? ⟨gb268, 2, none⟩ = some (.int .i64 x269002_42) := (bC_ BK268.out 2).trans rfl; have hcz89_3 : w86.cell? ⟨gb268, 3, none⟩ = some (.int .i64 x269003_42) := (bC_ BK268.out 3).trans rfl; have hcz89_4 : w86.cell? ⟨gb268, 4, none⟩ = some (.int .i64 x269004_42) := (bC_ BK268.out 4).trans rfl; have hcz89_5 : w86.cell? ⟨gb268, 5, none⟩ = some (.int .i64 x269005_42) := (bC_ BK268.out 5).trans rfl; have hcz89_6 : w86.cell? ⟨gb268, 6, none⟩ = some (.int .i64 x269006_42) := (bC_ BK268.out 6).trans rfl; have hcz89_7 : w86.cell? ⟨gb268, 7, none⟩ = some (.int .i64 x269007_42) := (bC_ BK268.out 7).trans rfl; have hcz89_8 : w86.cell? ⟨gb268, 8, none⟩ = some (.int .i64 x269008_42) := (bC_ BK268.out 8).trans rfl; have hfz89_0 := bF_ BK268.out 0; have hfz89_1 := bF_ BK268.out 1; have hfz89_2 := bF_ BK268.out 2; have hfz89_3 := bF_ BK268.out 3; have hfz89_4 := bF_ BK268.out 4; have hfz89_5 := bF_ BK268.out 5; have hfz89_6 := bF_ BK268.out 6; have hfz89_7 := bF_ BK268.out 7; have hfz89_8 := bF_ BK268.out 8; have hnb90 := NB248_0.out; have hnc90 := NB0_248.out; have hcz91_0 : w86.cell? ⟨gb248, 0, none⟩ = some (.int .i64 0) := (bC_ BK248.out 0).trans rfl; have hcz91_1 : w86.cell? ⟨gb248, 1, none⟩ = some (.int .i64 0) := (bC_ BK248.out 1).trans rfl; have hcz91_2 : w86.cell? ⟨gb248, 2, none⟩ = some (.int .i64 0) := (bC_ BK248.out 2).trans rfl; have hcz91_3 : w86.cell? ⟨gb248, 3, none⟩ = some (.int .i64 0) := (bC_ BK248.out 3).trans rfl; have hcz91_4 : w86.cell? ⟨gb248, 4, none⟩ = some (.int .i64 0) := (bC_ BK248.out 4).trans rfl; have hcz91_5 : w86.cell? ⟨gb248, 5, none⟩ = some (.int .i64 0) := (bC_ BK248.out 5).trans rfl; have hcz91_6 : w86.cell? ⟨gb248, 6, none⟩ = some (.int .i64 0) := (bC_ BK248.out 6).trans rfl; have hcz91_7 : w86.cell? ⟨gb248, 7, none⟩ = some (.int .i64 0) := (bC_ BK248.out 7).trans rfl; have hcz91_8 : w86.cell? ⟨gb248, 8, none⟩ = some (.int .i64 0) := (bC_ BK248.out 8).trans rfl; have hfz91_0 := bF_ BK248.out 0; have hfz91_1 := bF_ BK248.out 1; have hfz91_2 := bF_ BK248.out 2; have hfz91_3 := bF_ BK248.out 3; have hfz91_4 := bF_ BK248.out 4; have hfz91_5 := bF_ BK248.out 5; have hfz91_6 := bF_ BK248.out 6; have hfz91_7 := bF_ BK248.out 7; have hfz91_8 := bF_ BK248.out 8))
          refine bodyPost_ret (results_cell_row rfl _ _ gb248 89 #[.int .i64 x269000_42, .int .i64 t287, .int .i64 t288, .int .i64 x269003_42, .int .i64 x269004_42, .int .i64 x269005_42, .int .i64 x269006_42, .int .i64 x269007_42, .int .i64 x269008_42] (0, 0) _ rfl (by (with_reducible repeat (first | refine bN_ ?_ _ | refine bD_ ?_ | refine bA_ ?_ _)); refine bP_ (cs := #[.int .i64 x269000_42, .int .i64 t287, .int .i64 t288, .int .i64 x269003_42, .int .i64 x269004_42, .int .i64 x269005_42, .int .i64 x269006_42, .int .i64 x269007_42, .int .i64 0]) ?_ 8 _ rfl; (with_reducible repeat (first | refine bN_ ?_ _ | refine bD_ ?_ | refine bA_ ?_ _)); refine bP_ (cs := #[.int .i64 x269000_42, .int .i64 t287, .int .i64 t288, .int .i64 x269003_42, .int .i64 x269004_42, .int .i64 x269005_42, .int .i64 x269006_42, .int .i64 0, .int .i64 0]) ?_ 7 _ rfl; (with_reducible repeat (first | refine bN_ ?_ _ | refine bD_ ?_ | refine bA_ ?_ _)); refine bP_ (cs := #[.int .i64 x269000_42, .int .i64 t287, .int .i64 t288, .int .i64 x269003_42, .int .i64 x269004_42, .int .i64 x269005_42, .int .i64 0, .int .i64 0, .int .i64 0]) ?_ 6 _ rfl; (with_reducible repeat (first | refine bN_ ?_ _ | refine bD_ ?_ | refine bA_ ?_ _)); refine bP_ (cs := #[.int .i64 x269000_42, .int .i64 t287, .int .i64 t288, .int .i64 x269003_42, .int .i64 x269004_42, .int .i64 0, .int .i64 0, .int .i64 0, .int .i64 0]) ?_ 5 _ rfl; (with_reducible repeat (first | refine bN_ ?_ _ | refine bD_ ?_ | refine bA_ ?_ _)); refine bP_ (cs := #[.int .i64 x269000_42, .int .i64 t287, .int .i64 t288, .int .i64 x269003_42, .int .i64 0, .int .i64 0, .int .i64 0, .int .i64 0, .int .i64 0]) ?_ 4 _ rfl; (with_reducible repeat (first | refine bN_ ?_ _ | refine bD_ ?_ | refine bA_ ?_ _)); refine bP_ (cs := #[.int .i64 x269000_42, .int .i64 t287, .int .i64 t288, .int .i64 0, .int .i64 0, .int .i64 0, .int .i64 0, .int .i64 0, .int .i64 0]) ?_ 3 _ rfl; (with_reducible repeat (first | refine bN_ ?_ _ | refine bD_ ?_ | refine bA_ ?_ _)); refine bP_ (cs := #[.int .i64 x269000_42, .int .i64 t287, .int .i64 0, .int .i64 0, .int .i64 0, .int .i64 0, .int .i64 0, .int .i64 0, .int .i64 0]) ?_ 2 _ rfl; (with_reducible repeat (first | refine bN_ ?_ _ | refine bD_ ?_ | refine bA_ ?_ _)); refine bP_ (cs := #[.int .i64 x269000_42, .int .i64 0, .int .i64 0, .int .i64 0, .int .i64 0, .int .i64 0, .int .i64 0, .int .i64 0, .int .i64 0]) ?_ 1 _ rfl; (with_reducible repeat (first | refine bN_ ?_ _ | refine bD_ ?_ | refine bA_ ?_ _)); refine bP_ (cs := #[.int .i64 0, .int .i64 0, .int .i64 0, .int .i64 0, .int .i64 0, .int .i64 0, .int .i64 0, .int .i64 0, .int .i64 0]) ?_ 0 _ rfl; (with_reducible repeat (first | refine bN_ ?_ _ | refine bD_ ?_ | refine bA_ ?_ _)); refine bR_ ?_ NB248_268.out _; (with_reducible repeat (first | refine bN_ ?_ _ | refine bD_ ?_ | refine bA_ ?_ _)); refine bR_ ?_ NB248_268.out _; (with_reducible repeat (first | refine bN_ ?_ _ | refine bD_ ?_ | refine bA_ ?_ _)); exact BK248.out) Try.underlying89 rfl (by kernel_rfl)) rfl ?_
          exact ⟨by first | rfl | (simp [errW_none, errW_some] <;> rfl) | (simp [*, errW_none, errW_some] <;> rfl), by repeat (first | (with_reducible first | exact HI0.out | apply I81_.alloc | apply I81_.drewN | apply I81_.drew | apply I81_.set_1 | refine I81_.far ?_ NB0_248.out _ | refine I81_.far ?_ NB0_268.out _) | exact HI0.out), by repeat (first | (with_reducible first | exact HB.out | apply eA_ | apply pN_ | apply eD_ | refine eS_ ?_ (I81_.ge HI0.out) | refine eS_ ?_ GE248.out | refine eS_ ?_ GE268.out) | exact HB.out), by repeat (first | (with_reducible first | exact HK.out | apply KeepBut.set_ | apply kN_ | apply kD_ | apply kA_ | refine kF_ ?_ GW248.out _ | refine kF_ ?_ GW268.out _) | exact HK.out)⟩
         ·rw [if_neg c82] at H
          have c82b0 : (t279 == 1) = false := beq_eq_false_iff_ne.mpr c82
          have c82b1 : (t279 != 1) = true := bne_iff_ne.mpr c82
          by_cases c92 : t279 = 2
          ·rw [if_pos c92] at H
           have c92b0 : (t279 == 2) = true := beq_iff_eq.mpr c92
           have c92b1 : (t279 != 2) = false := bne_eq_false_iff_eq.mpr c92
           clear c92
           obtain ⟨y290, hy290⟩ : ∃ y_ : List Int, y_ = (([(-1), 0, 1, 1500, 1501] : List Int)) := ⟨_, rfl⟩
           replace H : ((spec_l20Rd_pick.f kj42 s0_0 t280 5).bind fun bt293 => (if 0 ≤ bt293.1 then (if bt293.1 < (y290.length : Int) then (some (x269000_42, x269001_42, x269002_42, rd y290 bt293.1, x269004_42, x269005_42, x269006_42, x269007_42, x269008_42, bt293.2)) else (none)) else (none))) = some (r1, r2, r3, r4, r5, r6, r7, r8, r9, r10) := by first | (rw [hy290]; with_reducible exact H) | (have H2_ := (Option.bind_some _ _).symm.trans H; rw [hy290]; with_reducible exact H2_) | (have H2_ := (Option.bind_some _ _).symm.trans H; with_reducible exact H2_) | with_reducible exact H | (rw [hy290]; exact H) | exact H
           have Ny290 := Az_.mk hy290
           clear hy290
           replace H := Option.bind_eq_some_iff.mp H
           obtain ⟨⟨t293, t294⟩, A930, H⟩ := H
           replace H : (if 0 ≤ t293 then (if t293 < (y290.length : Int) then (some (x269000_42, x269001_42, x269002_42, rd y290 t293, x269004_42, x269005_42, x269006_42, x269007_42, x269008_42, t294)) else (none)) else (none)) = some (r1, r2, r3, r4, r5, r6, r7, r8, r9, r10) := H
           have A93 := Az_.mk A930
           clear A930
           by_cases c94 : 0 ≤ t293
           ·rw [if_pos c94] at H
            have c94b0 : decide (0 ≤ t293) = true := decide_eq_true c94
            clear c94
            by_cases c95 : t293 < (y290.length : Int)
            ·rw [if_pos c95] at H
             have c95b0 : decide (t293 < (y290.length : Int)) = true := decide_eq_true c95
             clear c95
             simp only [Option.some.injEq, Prod.mk.injEq] at H
             obtain ⟨rfl, rfl, rfl, rfl, rfl, rfl, rfl, rfl, rfl, rfl⟩ := H
             go_wp2_with (first | ((with_reducible refine gate_callee (f := 53) rfl ?_); refine goesL_ (some 44) rfl rfl Try.func53 (by kernel_rfl) rfl #[.pointer (some ⟨g, 0, none⟩), .int .i64 a1] rfl (by (try simp only [List.map_toArray, List.map_cons, List.map_nil]); first | done | rfl | (simp only [List.length_drop, List.length_take]; rfl)) ?_; (with_reducible refine (spec_l20Rd_pick.calls kj42 g s0_0 x1001_42 a1 t277 t278 w0 _ ?side1 ?side2 A58.out).mono ?_); (case side1 => repeat (first | (with_reducible first | exact HI0.out | apply I81_.alloc | apply I81_.drewN | apply I81_.drew | apply I81_.set_1 | refine I81_.far ?_ NB0_248.out _ | refine I81_.far ?_ NB0_268.out _) | exact HI0.out)); (case side2 => repeat (first | (with_reducible first | exact HB.out | apply eA_ | apply pN_ | apply eD_ | refine eS_ ?_ (I81_.ge HI0.out) | refine eS_ ?_ GE248.out | refine eS_ ?_ GE268.out) | exact HB.out)); rintro e w96 ⟨rfl, hi, hb, hk⟩; refine ⟨_, rfl, ?_⟩; have n0_ := Az_.mk (KeepBut.blk hk (g' := gb248) (o := .cells #[.int .i64 0, .int .i64 0, .int .i64 0, .int .i64 0, .int .i64 0, .int .i64 0, .int .i64 0, .int .i64 0, .int .i64 0] 89 (0, 0)) (by (with_reducible repeat (first | refine bN_ ?_ _ | refine bD_ ?_ | refine bA_ ?_ _)); exact BK248.out) NB248_0.out (by simp)); have n1_ := Az_.mk (KeepBut.blk hk (g' := gb268) (o := .cells #[.int .i64 x269000_42, .int .i64 x269001_42, .int .i64 x269002_42, .int .i64 x269003_42, .int .i64 x269004_42, .int .i64 x269005_42, .int .i64 x269006_42, .int .i64 x269007_42, .int .i64 x269008_42] 89 (0, 0)) (by (with_reducible repeat (first | refine bN_ ?_ _ | refine bD_ ?_ | refine bA_ ?_ _)); exact BK268.out) NB268_0.out (by simp)); have n2_ := Az_.mk (KeepBut.trans (by repeat (first | (with_reducible first | exact HK.out | apply KeepBut.set_ | apply kN_ | apply kD_ | apply kA_ | refine kF_ ?_ GW248.out _ | refine kF_ ?_ GW268.out _) | exact HK.out)) hk (.inl rfl)); have n3_ := Az_.mk (hb); have n4_ := Az_.mk (hi); clear BK248; clear BK268; clear HK; clear HB; clear HI0; have BK248 := n0_; have BK268 := n1_; have HK := n2_; have HB := n3_; have HI0 := n4_; clear n0_ n1_ n2_ n3_ n4_; (try clear hb); (try clear hb2); (try clear hk); (try clear hi)) | ((with_reducible refine gate_callee (f := 53) rfl ?_); refine goesL_ (some 48) rfl rfl Try.func53 (by kernel_rfl) rfl #[.pointer (some ⟨g, 0, none⟩), .int .i64 5] rfl (by (try simp only [List.map_toArray, List.map_cons, List.map_nil]); first | done | rfl | (simp only [List.length_drop, List.length_take]; rfl)) ?_; (with_reducible refine (spec_l20Rd_pick.calls kj42 g s0_0 t278 5 t279 t280 w0 _ ?side1 ?side2 A66.out).mono ?_); (case side1 => repeat (first | (with_reducible first | exact HI0.out | apply I81_.alloc | apply I81_.drewN | apply I81_.drew | apply I81_.set_1 | refine I81_.far ?_ NB0_248.out _ | refine I81_.far ?_ NB0_268.out _) | exact HI0.out)); (case side2 => repeat (first | (with_reducible first | exact HB.out | apply eA_ | apply pN_ | apply eD_ | refine eS_ ?_ (I81_.ge HI0.out) | refine eS_ ?_ GE248.out | refine eS_ ?_ GE268.out) | exact HB.out)); rintro e w97 ⟨rfl, hi, hb, hk⟩; refine ⟨_, rfl, ?_⟩; have n0_ := Az_.mk (KeepBut.blk hk (g' := gb248) (o := .cells #[.int .i64 0, .int .i64 0, .int .i64 0, .int .i64 0, .int .i64 0, .int .i64 0, .int .i64 0, .int .i64 0, .int .i64 0] 89 (0, 0)) (by (with_reducible repeat (first | refine bN_ ?_ _ | refine bD_ ?_ | refine bA_ ?_ _)); exact BK248.out) NB248_0.out (by simp)); have n1_ := Az_.mk (KeepBut.blk hk (g' := gb268) (o := .cells #[.int .i64 x269000_42, .int .i64 x269001_42, .int .i64 x269002_42, .int .i64 x269003_42, .int .i64 x269004_42, .int .i64 x269005_42, .int .i64 x269006_42, .int .i64 x269007_42, .int .i64 x269008_42] 89 (0, 0)) (by (with_reducible repeat (first | refine bN_ ?_ _ | refine bD_ ?_ | refine bA_ ?_ _)); exact BK268.out) NB268_0.out (by simp)); have n2_ := Az_.mk (KeepBut.trans (by repeat (first | (with_reducible first | exact HK.out | apply KeepBut.set_ | apply kN_ | apply kD_ | apply kA_ | refine kF_ ?_ GW248.out _ | refine kF_ ?_ GW268.out _) | exact HK.out)) hk (.inl rfl)); have n3_ := Az_.mk (hb); have n4_ := Az_.mk (hi); clear BK248; clear BK268; clear HK; clear HB; clear HI0; have BK248 := n0_; have BK268 := n1_; have HK := n2_; have HB := n3_; have HI0 := n4_; clear n0_ n1_ n2_ n3_ n4_; (try clear hb); (try clear hb2); (try clear hk); (try clear hi)) | ((with_reducible refine gate_dst (N := 67) rfl ?_); refine Kd.R_lit (Kd.int .i64) _ 3 ?hg (N := 67) ?hd (xs := ([(-1), 0, 1, 1500, 1501] : List Int)) (inner := [.int .i64 (-1), .int .i64 0, .int .i64 1, .int .i64 1500, .int .i64 1501]) (ok := fun _ => True) (okp := fun _ => True) ?hr ?hp (fun _ hk => hk) trivial (Below.refl _ _) (Nat.le_refl _) (by simp) ?_; (case hd => rfl); (case hg => rfl); (case hr => first | (go_simp; done) | (go_simp; rfl)); (case hp => exact (Reps.one (show Kd.M (Kd.int .i64) _ _ _ (-1) [.int .i64 (-1)] from rfl) (Reps.one (show Kd.M (Kd.int .i64) _ _ _ 0 [.int .i64 0] from rfl) (Reps.one (show Kd.M (Kd.int .i64) _ _ _ 1 [.int .i64 1] from rfl) (Reps.one (show Kd.M (Kd.int .i64) _ _ _ 1500 [.int .i64 1500] from rfl) (Reps.one (show Kd.M (Kd.int .i64) _ _ _ 1501 [.int .i64 1501] from rfl) (Reps.none _ _))))))); intro v291 w98 ho99 hb hg_ hnew_; clear hg_ hnew_; (first | rw [← Ny290.out] at ho99 | (simp only [Int.reduceToNat] at ho99; rw [← Ny290.out] at ho99)); have n0_ := Az_.mk (Kd.R_lower ho99 (keep_size (w := w) (g := g) (row := none) (by repeat (first | (with_reducible first | exact HK.out | apply KeepBut.set_ | apply kN_ | apply kD_ | apply kA_ | refine kF_ ?_ GW248.out _ | refine kF_ ?_ GW268.out _) | exact HK.out)))); have n1_ := Az_.mk (bB_ (g := gb248) (o := .cells #[.int .i64 0, .int .i64 0, .int .i64 0, .int .i64 0, .int .i64 0, .int .i64 0, .int .i64 0, .int .i64 0, .int .i64 0] 89 (0, 0)) (by (with_reducible repeat (first | refine bN_ ?_ _ | refine bD_ ?_ | refine bA_ ?_ _)); exact BK248.out) hb); have n2_ := Az_.mk (bB_ (g := gb268) (o := .cells #[.int .i64 x269000_42, .int .i64 x269001_42, .int .i64 x269002_42, .int .i64 x269003_42, .int .i64 x269004_42, .int .i64 x269005_42, .int .i64 x269006_42, .int .i64 x269007_42, .int .i64 x269008_42] 89 (0, 0)) (by (with_reducible repeat (first | refine bN_ ?_ _ | refine bD_ ?_ | refine bA_ ?_ _)); exact BK268.out) hb); have n3_ := Az_.mk (I81_.below (by repeat (first | (with_reducible first | exact HI0.out | apply I81_.alloc | apply I81_.drewN | apply I81_.drew | apply I81_.set_1 | refine I81_.far ?_ NB0_248.out _ | refine I81_.far ?_ NB0_268.out _) | exact HI0.out)) hb); have n4_ := Az_.mk (KeepBut.trans (by repeat (first | (with_reducible first | exact HK.out | apply KeepBut.set_ | apply kN_ | apply kD_ | apply kA_ | refine kF_ ?_ GW248.out _ | refine kF_ ?_ GW268.out _) | exact HK.out)) (KeepBut.of_below hb g none) (.inl rfl)); have n5_ := Az_.mk (below_step (by repeat (first | (with_reducible first | exact HB.out | apply eA_ | apply pN_ | apply eD_ | refine eS_ ?_ (I81_.ge HI0.out) | refine eS_ ?_ GE248.out | refine eS_ ?_ GE268.out) | exact HB.out)) hb); clear BK248; clear BK268; clear HI0; clear HK; clear HB; have HO292 := n0_; have BK248 := n1_; have BK268 := n2_; have HI0 := n3_; have HK := n4_; have HB := n5_; clear n0_ n1_ n2_ n3_ n4_ n5_; clear hb ho99) | ((with_reducible refine gate_callee (f := 53) rfl ?_); refine goesL_ (some 69) rfl rfl Try.func53 (by kernel_rfl) rfl #[.pointer (some ⟨g, 0, none⟩), .int .i64 5] rfl (by (try simp only [List.map_toArray, List.map_cons, List.map_nil]); first | done | rfl | (simp only [List.length_drop, List.length_take]; rfl)) ?_; (with_reducible refine (spec_l20Rd_pick.calls kj42 g s0_0 t280 5 t293 t294 w0 _ ?side1 ?side2 A93.out).mono ?_); (case side1 => repeat (first | (with_reducible first | exact HI0.out | apply I81_.alloc | apply I81_.drewN | apply I81_.drew | apply I81_.set_1 | refine I81_.far ?_ NB0_248.out _ | refine I81_.far ?_ NB0_268.out _) | exact HI0.out)); (case side2 => repeat (first | (with_reducible first | exact HB.out | apply eA_ | apply pN_ | apply eD_ | refine eS_ ?_ (I81_.ge HI0.out) | refine eS_ ?_ GE248.out | refine eS_ ?_ GE268.out) | exact HB.out)); rintro e w100 ⟨rfl, hi, hb, hk⟩; refine ⟨_, rfl, ?_⟩; have n0_ := Az_.mk (KeepBut.blk hk (g' := gb248) (o := .cells #[.int .i64 0, .int .i64 0, .int .i64 0, .int .i64 0, .int .i64 0, .int .i64 0, .int .i64 0, .int .i64 0, .int .i64 0] 89 (0, 0)) (by (with_reducible repeat (first | refine bN_ ?_ _ | refine bD_ ?_ | refine bA_ ?_ _)); exact BK248.out) NB248_0.out (by simp)); have n1_ := Az_.mk (KeepBut.blk hk (g' := gb268) (o := .cells #[.int .i64 x269000_42, .int .i64 x269001_42, .int .i64 x269002_42, .int .i64 x269003_42, .int .i64 x269004_42, .int .i64 x269005_42, .int .i64 x269006_42, .int .i64 x269007_42, .int .i64 x269008_42] 89 (0, 0)) (by (with_reducible repeat (first | refine bN_ ?_ _ | refine bD_ ?_ | refine bA_ ?_ _)); exact BK268.out) NB268_0.out (by simp)); have n2_ := Az_.mk (Kd.R_mono (Kd.R_keep (I81_.apart (show I81_ w0 _ g s0_0 t280 from by repeat (first | (with_reducible first | exact HI0.out | apply I81_.alloc | apply I81_.drewN | apply I81_.drew | apply I81_.set_1 | refine I81_.far ?_ NB0_248.out _ | refine I81_.far ?_ NB0_268.out _) | exact HI0.out)) (by (with_reducible repeat (first | apply Kd.R_alloc | apply Kd.R_drewN | apply Kd.R_drew)); exact HO292.out) (by decide)) hk (fun _ h => h.2)) (fun _ h => h.1)); have n3_ := Az_.mk (KeepBut.trans (by repeat (first | (with_reducible first | exact HK.out | apply KeepBut.set_ | apply kN_ | apply kD_ | apply kA_ | refine kF_ ?_ GW248.out _ | refine kF_ ?_ GW268.out _) | exact HK.out)) hk (.inl rfl)); have n4_ := Az_.mk (hb); have n5_ := Az_.mk (hi); clear BK248; clear BK268; clear HO292; clear HK; clear HB; clear HI0; have BK248 := n0_; have BK268 := n1_; have HO292 := n2_; have HK := n3_; have HB := n4_; have HI0 := n5_; clear n0_ n1_ n2_ n3_ n4_ n5_; (try clear hb); (try clear hb2); (try clear hk); (try clear hi); obtain ⟨Ao101, co101, eo101⟩ := Kd.R_slice HO292.out; subst eo101; have p295 : 0 ≤ (t293 : Int) := of_decide_eq_true (by first | (with_reducible assumption) | assumption); have q295 : t293 < (y290.length : Int) := of_decide_eq_true (by first | (with_reducible assumption) | assumption); obtain ⟨ad295, e295, hx295_0⟩ := Kd.at_int (Kd.R_reads' HO292.out).2.2 t293 p295 q295; cases e295; replace p295 := eq_true p295; replace q295 := eq_true q295; have hnb102 := NB268_248.out; have hnc102 := NB248_268.out; have hnb103 := NB268_0.out; have hnc103 := NB0_268.out; have hcz104_0 : w100.cell? ⟨gb268, 0, none⟩ = some (.int .i64 x269000_42) := (bC_ BK268.out 0).trans rfl; have hcz104_1 : w100.cell? ⟨gb268, 1, none⟩ = some (.int .i64 x269001_42) := (bC_ BK268.out 1).trans rfl; have hcz104_2 : w100.cell? ⟨gb268, 2, none⟩ = some (.int .i64 x269002_42) := (bC_ BK268.out 2).trans rfl; have hcz104_3 : w100.cell? ⟨gb268, 3, none⟩ = some (.int .i64 x269003_42) := (bC_ BK268.out 3).trans rfl; have hcz104_4 : w100.cell? ⟨gb268, 4, none⟩ = some (.int .i64 x269004_42) := (bC_ BK268.out 4).trans rfl; have hcz104_5 : w100.cell? ⟨gb268, 5, none⟩ = some (.int .i64 x269005_42) := (bC_ BK268.out 5).trans rfl; have hcz104_6 : w100.cell? ⟨gb268, 6, none⟩ = some (.int .i64 x269006_42) := (bC_ BK268.out 6).trans rfl; have hcz104_7 : w100.cell? ⟨gb268, 7, none⟩ = some (.int .i64 x269007_42) := (bC_ BK268.out 7).trans rfl; have hcz104_8 : w100.cell? ⟨gb268, 8, none⟩ = some (.int .i64 x269008_42) := (bC_ BK268.out 8).trans rfl; have hfz104_0 := bF_ BK268.out 0; have hfz104_1 := bF_ BK268.out 1; have hfz104_2 := bF_ BK268.out 2; have hfz104_3 := bF_ BK268.out 3; have hfz104_4 := bF_ BK268.out 4; have hfz104_5 := bF_ BK268.out 5; have hfz104_6 := bF_ BK268.out 6; have hfz104_7 := bF_ BK268.out 7; have hfz104_8 := bF_ BK268.out 8; have hnb105 := NB248_0.out; have hnc105 := NB0_248.out; have hcz106_0 : w100.cell? ⟨gb248, 0, none⟩ = some (.int .i64 0) := (bC_ BK248.out 0).trans rfl; have hcz106_1 : w100.cell? ⟨gb248, 1, none⟩ = some (.int .i64 0) := (bC_ BK248.out 1).trans rfl; have hcz106_2 : w100.cell? ⟨gb248, 2, none⟩ = some (.int .i64 0) := (bC_ BK248.out 2).trans rfl; have hcz106_3 : w100.cell? ⟨gb248, 3, none⟩ = some (.int .i64 0) := (bC_ BK248.out 3).trans rfl; have hcz106_4 : w100.cell? ⟨gb248, 4, none⟩ = some (.int .i64 0) := (bC_ BK248.out 4).trans rfl; have hcz106_5 : w100.cell? ⟨gb248, 5, none⟩ = some (.int .i64 0) := (bC_ BK248.out 5).trans rfl; have hcz106_6 : w100.cell? ⟨gb248, 6, none⟩ = some (.int .i64 0) := (bC_ BK248.out 6).trans rfl; have hcz106_7 : w100.cell? ⟨gb248, 7, none⟩ = some (.int .i64 0) := (bC_ BK248.out 7).trans rfl; have hcz106_8 : w100.cell? ⟨gb248, 8, none⟩ = some (.int .i64 0) := (bC_ BK248.out 8).trans rfl; have hfz106_0 := bF_ BK248.out 0; have hfz106_1 := bF_ BK248.out 1; have hfz106_2 := bF_ BK248.out 2; have hfz106_3 := bF_ BK248.out 3; have hfz106_4 := bF_ BK248.out 4; have hfz106_5 := bF_ BK248.out 5; have hfz106_6 := bF_ BK248.out 6; have hfz106_7 := bF_ BK248.out 7; have hfz106_8 := bF_ BK248.out 8))
             refine bodyPost_ret (results_cell_row rfl _ _ gb248 89 #[.int .i64 x269000_42, .int .i64 x269001_42, .int .i64 x269002_42, .int .i64 (rd y290 t293), .int .i64 x269004_42, .int .i64 x269005_42, .int .i64 x269006_42, .int .i64 x269007_42, .int .i64 x269008_42] (0, 0) _ rfl (by (with_reducible repeat (first | refine bN_ ?_ _ | refine bD_ ?_ | refine bA_ ?_ _)); refine bP_ (cs := #[.int .i64 x269000_42, .int .i64 x269001_42, .int .i64 x269002_42, .int .i64 (rd y290 t293), .int .i64 x269004_42, .int .i64 x269005_42, .int .i64 x269006_42, .int .i64 x269007_42, .int .i64 0]) ?_ 8 _ rfl; (with_reducible repeat (first | refine bN_ ?_ _ | refine bD_ ?_ | refine bA_ ?_ _)); refine bP_ (cs := #[.int .i64 x269000_42, .int .i64 x269001_42, .int .i64 x269002_42, .int .i64 (rd y290 t293), .int .i64 x269004_42, .int .i64 x269005_42, .int .i64 x269006_42, .int .i64 0, .int .i64 0]) ?_ 7 _ rfl; (with_reducible repeat (first | refine bN_ ?_ _ | refine bD_ ?_ | refine bA_ ?_ _)); refine bP_ (cs := #[.int .i64 x269000_42, .int .i64 x269001_42, .int .i64 x269002_42, .int .i64 (rd y290 t293), .int .i64 x269004_42, .int .i64 x269005_42, .int .i64 0, .int .i64 0, .int .i64 0]) ?_ 6 _ rfl; (with_reducible repeat (first | refine bN_ ?_ _ | refine bD_ ?_ | refine bA_ ?_ _)); refine bP_ (cs := #[.int .i64 x269000_42, .int .i64 x269001_42, .int .i64 x269002_42, .int .i64 (rd y290 t293), .int .i64 x269004_42, .int .i64 0, .int .i64 0, .int .i64 0, .int .i64 0]) ?_ 5 _ rfl; (with_reducible repeat (first | refine bN_ ?_ _ | refine bD_ ?_ | refine bA_ ?_ _)); refine bP_ (cs := #[.int .i64 x269000_42, .int .i64 x269001_42, .int .i64 x269002_42, .int .i64 (rd y290 t293), .int .i64 0, .int .i64 0, .int .i64 0, .int .i64 0, .int .i64 0]) ?_ 4 _ rfl; (with_reducible repeat (first | refine bN_ ?_ _ | refine bD_ ?_ | refine bA_ ?_ _)); refine bP_ (cs := #[.int .i64 x269000_42, .int .i64 x269001_42, .int .i64 x269002_42, .int .i64 0, .int .i64 0, .int .i64 0, .int .i64 0, .int .i64 0, .int .i64 0]) ?_ 3 _ rfl; (with_reducible repeat (first | refine bN_ ?_ _ | refine bD_ ?_ | refine bA_ ?_ _)); refine bP_ (cs := #[.int .i64 x269000_42, .int .i64 x269001_42, .int .i64 0, .int .i64 0, .int .i64 0, .int .i64 0, .int .i64 0, .int .i64 0, .int .i64 0]) ?_ 2 _ rfl; (with_reducible repeat (first | refine bN_ ?_ _ | refine bD_ ?_ | refine bA_ ?_ _)); refine bP_ (cs := #[.int .i64 x269000_42, .int .i64 0, .int .i64 0, .int .i64 0, .int .i64 0, .int .i64 0, .int .i64 0, .int .i64 0, .int .i64 0]) ?_ 1 _ rfl; (with_reducible repeat (first | refine bN_ ?_ _ | refine bD_ ?_ | refine bA_ ?_ _)); refine bP_ (cs := #[.int .i64 0, .int .i64 0, .int .i64 0, .int .i64 0, .int .i64 0, .int .i64 0, .int .i64 0, .int .i64 0, .int .i64 0]) ?_ 0 _ rfl; (with_reducible repeat (first | refine bN_ ?_ _ | refine bD_ ?_ | refine bA_ ?_ _)); refine bR_ ?_ NB248_268.out _; (with_reducible repeat (first | refine bN_ ?_ _ | refine bD_ ?_ | refine bA_ ?_ _)); exact BK248.out) Try.underlying89 rfl (by kernel_rfl)) rfl ?_
             exact ⟨by first | rfl | (simp [errW_none, errW_some] <;> rfl) | (simp [*, errW_none, errW_some] <;> rfl), by repeat (first | (with_reducible first | exact HI0.out | apply I81_.alloc | apply I81_.drewN | apply I81_.drew | apply I81_.set_1 | refine I81_.far ?_ NB0_248.out _ | refine I81_.far ?_ NB0_268.out _) | exact HI0.out), by repeat (first | (with_reducible first | exact HB.out | apply eA_ | apply pN_ | apply eD_ | refine eS_ ?_ (I81_.ge HI0.out) | refine eS_ ?_ GE248.out | refine eS_ ?_ GE268.out) | exact HB.out), by repeat (first | (with_reducible first | exact HK.out | apply KeepBut.set_ | apply kN_ | apply kD_ | apply kA_ | refine kF_ ?_ GW248.out _ | refine kF_ ?_ GW268.out _) | exact HK.out)⟩
            ·rw [if_neg c95] at H
             exact absurd H (by simp)
           ·rw [if_neg c94] at H
            exact absurd H (by simp)
          ·rw [if_neg c92] at H
           have c92b0 : (t279 == 2) = false := beq_eq_false_iff_ne.mpr c92
           have c92b1 : (t279 != 2) = true := bne_iff_ne.mpr c92
           by_cases c107 : t279 = 3
           ·rw [if_pos c107] at H
            have c107b0 : (t279 == 3) = true := beq_iff_eq.mpr c107
            have c107b1 : (t279 != 3) = false := bne_eq_false_iff_eq.mpr c107
            clear c107
            replace H := Option.bind_eq_some_iff.mp H
            obtain ⟨⟨t296, t297⟩, A1080, H⟩ := H
            replace H : (some (x269000_42, x269001_42, x269002_42, x269003_42, t296, x269005_42, x269006_42, x269007_42, x269008_42, t297)) = some (r1, r2, r3, r4, r5, r6, r7, r8, r9, r10) := H
            have A108 := Az_.mk A1080
            clear A1080
            simp only [Option.some.injEq, Prod.mk.injEq] at H
            obtain ⟨rfl, rfl, rfl, rfl, rfl, rfl, rfl, rfl, rfl, rfl⟩ := H
            go_wp2_with (first | ((with_reducible refine gate_callee (f := 53) rfl ?_); refine goesL_ (some 44) rfl rfl Try.func53 (by kernel_rfl) rfl #[.pointer (some ⟨g, 0, none⟩), .int .i64 a1] rfl (by (try simp only [List.map_toArray, List.map_cons, List.map_nil]); first | done | rfl | (simp only [List.length_drop, List.length_take]; rfl)) ?_; (with_reducible refine (spec_l20Rd_pick.calls kj42 g s0_0 x1001_42 a1 t277 t278 w0 _ ?side1 ?side2 A58.out).mono ?_); (case side1 => repeat (first | (with_reducible first | exact HI0.out | apply I81_.alloc | apply I81_.drewN | apply I81_.drew | apply I81_.set_1 | refine I81_.far ?_ NB0_248.out _ | refine I81_.far ?_ NB0_268.out _) | exact HI0.out)); (case side2 => repeat (first | (with_reducible first | exact HB.out | apply eA_ | apply pN_ | apply eD_ | refine eS_ ?_ (I81_.ge HI0.out) | refine eS_ ?_ GE248.out | refine eS_ ?_ GE268.out) | exact HB.out)); rintro e w109 ⟨rfl, hi, hb, hk⟩; refine ⟨_, rfl, ?_⟩; have n0_ := Az_.mk (KeepBut.blk hk (g' := gb248) (o := .cells #[.int .i64 0, .int .i64 0, .int .i64 0, .int .i64 0, .int .i64 0, .int .i64 0, .int .i64 0, .int .i64 0, .int .i64 0] 89 (0, 0)) (by (with_reducible repeat (first | refine bN_ ?_ _ | refine bD_ ?_ | refine bA_ ?_ _)); exact BK248.out) NB248_0.out (by simp)); have n1_ := Az_.mk (KeepBut.blk hk (g' := gb268) (o := .cells #[.int .i64 x269000_42, .int .i64 x269001_42, .int .i64 x269002_42, .int .i64 x269003_42, .int .i64 x269004_42, .int .i64 x269005_42, .int .i64 x269006_42, .int .i64 x269007_42, .int .i64 x269008_42] 89 (0, 0)) (by (with_reducible repeat (first | refine bN_ ?_ _ | refine bD_ ?_ | refine bA_ ?_ _)); exact BK268.out) NB268_0.out (by simp)); have n2_ := Az_.mk (KeepBut.trans (by repeat (first | (with_reducible first | exact HK.out | apply KeepBut.set_ | apply kN_ | apply kD_ | apply kA_ | refine kF_ ?_ GW248.out _ | refine kF_ ?_ GW268.out _) | exact HK.out)) hk (.inl rfl)); have n3_ := Az_.mk (hb); have n4_ := Az_.mk (hi); clear BK248; clear BK268; clear HK; clear HB; clear HI0; have BK248 := n0_; have BK268 := n1_; have HK := n2_; have HB := n3_; have HI0 := n4_; clear n0_ n1_ n2_ n3_ n4_; (try clear hb); (try clear hb2); (try clear hk); (try clear hi)) | ((with_reducible refine gate_callee (f := 53) rfl ?_); refine goesL_ (some 48) rfl rfl Try.func53 (by kernel_rfl) rfl #[.pointer (some ⟨g, 0, none⟩), .int .i64 5] rfl (by (try simp only [List.map_toArray, List.map_cons, List.map_nil]); first | done | rfl | (simp only [List.length_drop, List.length_take]; rfl)) ?_; (with_reducible refine (spec_l20Rd_pick.calls kj42 g s0_0 t278 5 t279 t280 w0 _ ?side1 ?side2 A66.out).mono ?_); (case side1 => repeat (first | (with_reducible first | exact HI0.out | apply I81_.alloc | apply I81_.drewN | apply I81_.drew | apply I81_.set_1 | refine I81_.far ?_ NB0_248.out _ | refine I81_.far ?_ NB0_268.out _) | exact HI0.out)); (case side2 => repeat (first | (with_reducible first | exact HB.out | apply eA_ | apply pN_ | apply eD_ | refine eS_ ?_ (I81_.ge HI0.out) | refine eS_ ?_ GE248.out | refine eS_ ?_ GE268.out) | exact HB.out)); rintro e w110 ⟨rfl, hi, hb, hk⟩; refine ⟨_, rfl, ?_⟩; have n0_ := Az_.mk (KeepBut.blk hk (g' := gb248) (o := .cells #[.int .i64 0, .int .i64 0, .int .i64 0, .int .i64 0, .int .i64 0, .int .i64 0, .int .i64 0, .int .i64 0, .int .i64 0] 89 (0, 0)) (by (with_reducible repeat (first | refine bN_ ?_ _ | refine bD_ ?_ | refine bA_ ?_ _)); exact BK248.out) NB248_0.out (by simp)); have n1_ := Az_.mk (KeepBut.blk hk (g' := gb268) (o := .cells #[.int .i64 x269000_42, .int .i64 x269001_42, .int .i64 x269002_42, .int .i64 x269003_42, .int .i64 x269004_42, .int .i64 x269005_42, .int .i64 x269006_42, .int .i64 x269007_42, .int .i64 x269008_42] 89 (0, 0)) (by (with_reducible repeat (first | refine bN_ ?_ _ | refine bD_ ?_ | refine bA_ ?_ _)); exact BK268.out) NB268_0.out (by simp)); have n2_ := Az_.mk (KeepBut.trans (by repeat (first | (with_reducible first | exact HK.out | apply KeepBut.set_ | apply kN_ | apply kD_ | apply kA_ | refine kF_ ?_ GW248.out _ | refine kF_ ?_ GW268.out _) | exact HK.out)) hk (.inl rfl)); have n3_ := Az_.mk (hb); have n4_ := Az_.mk (hi); clear BK248; clear BK268; clear HK; clear HB; clear HI0; have BK248 := n0_; have BK268 := n1_; have HK := n2_; have HB := n3_; have HI0 := n4_; clear n0_ n1_ n2_ n3_ n4_; (try clear hb); (try clear hb2); (try clear hk); (try clear hi)) | ((with_reducible refine gate_callee (f := 53) rfl ?_); refine goesL_ (some 76) rfl rfl Try.func53 (by kernel_rfl) rfl #[.pointer (some ⟨g, 0, none⟩), .int .i64 5] rfl (by (try simp only [List.map_toArray, List.map_cons, List.map_nil]); first | done | rfl | (simp only [List.length_drop, List.length_take]; rfl)) ?_; (with_reducible refine (spec_l20Rd_pick.calls kj42 g s0_0 t280 5 t296 t297 w0 _ ?side1 ?side2 A108.out).mono ?_); (case side1 => repeat (first | (with_reducible first | exact HI0.out | apply I81_.alloc | apply I81_.drewN | apply I81_.drew | apply I81_.set_1 | refine I81_.far ?_ NB0_248.out _ | refine I81_.far ?_ NB0_268.out _) | exact HI0.out)); (case side2 => repeat (first | (with_reducible first | exact HB.out | apply eA_ | apply pN_ | apply eD_ | refine eS_ ?_ (I81_.ge HI0.out) | refine eS_ ?_ GE248.out | refine eS_ ?_ GE268.out) | exact HB.out)); rintro e w111 ⟨rfl, hi, hb, hk⟩; refine ⟨_, rfl, ?_⟩; have n0_ := Az_.mk (KeepBut.blk hk (g' := gb248) (o := .cells #[.int .i64 0, .int .i64 0, .int .i64 0, .int .i64 0, .int .i64 0, .int .i64 0, .int .i64 0, .int .i64 0, .int .i64 0] 89 (0, 0)) (by (with_reducible repeat (first | refine bN_ ?_ _ | refine bD_ ?_ | refine bA_ ?_ _)); exact BK248.out) NB248_0.out (by simp)); have n1_ := Az_.mk (KeepBut.blk hk (g' := gb268) (o := .cells #[.int .i64 x269000_42, .int .i64 x269001_42, .int .i64 x269002_42, .int .i64 x269003_42, .int .i64 x269004_42, .int .i64 x269005_42, .int .i64 x269006_42, .int .i64 x269007_42, .int .i64 x269008_42] 89 (0, 0)) (by (with_reducible repeat (first | refine bN_ ?_ _ | refine bD_ ?_ | refine bA_ ?_ _)); exact BK268.out) NB268_0.out (by simp)); have n2_ := Az_.mk (KeepBut.trans (by repeat (first | (with_reducible first | exact HK.out | apply KeepBut.set_ | apply kN_ | apply kD_ | apply kA_ | refine kF_ ?_ GW248.out _ | refine kF_ ?_ GW268.out _) | exact HK.out)) hk (.inl rfl)); have n3_ := Az_.mk (hb); have n4_ := Az_.mk (hi); clear BK248; clear BK268; clear HK; clear HB; clear HI0; have BK248 := n0_; have BK268 := n1_; have HK := n2_; have HB := n3_; have HI0 := n4_; clear n0_ n1_ n2_ n3_ n4_; (try clear hb); (try clear hb2); (try clear hk); (try clear hi); have hnb112 := NB268_248.out; have hnc112 := NB248_268.out; have hnb113 := NB268_0.out; have hnc113 := NB0_268.out; have hcz114_0 : w111.cell? ⟨gb268, 0, none⟩ = some (.int .i64 x269000_42) := (bC_ BK268.out 0).trans rfl; have hcz114_1 : w111.cell? ⟨gb268, 1, none⟩ = some (.int .i64 x269001_42) := (bC_ BK268.out 1).trans rfl; have hcz114_2 : w111.cell? ⟨gb268, 2, none⟩ = some (.int .i64 x269002_42) := (bC_ BK268.out 2).trans rfl; have hcz114_3 : w111.cell? ⟨gb268, 3, none⟩ = some (.int .i64 x269003_42) := (bC_ BK268.out 3).trans rfl; have hcz114_4 : w111.cell? ⟨gb268, 4, none⟩ = some (.int .i64 x269004_42) := (bC_ BK268.out 4).trans rfl; have hcz114_5 : w111.cell? ⟨gb268, 5, none⟩ = some (.int .i64 x269005_42) := (bC_ BK268.out 5).trans rfl; have hcz114_6 : w111.cell? ⟨gb268, 6, none⟩ = some (.int .i64 x269006_42) := (bC_ BK268.out 6).trans rfl; have hcz114_7 : w111.cell? ⟨gb268, 7, none⟩ = some (.int .i64 x269007_42) := (bC_ BK268.out 7).trans rfl; have hcz114_8 : w111.cell? ⟨gb268, 8, none⟩ = some (.int .i64 x269008_42) := (bC_ BK268.out 8).trans rfl; have hfz114_0 := bF_ BK268.out 0; have hfz114_1 := bF_ BK268.out 1; have hfz114_2 := bF_ BK268.out 2; have hfz114_3 := bF_ BK268.out 3; have hfz114_4 := bF_ BK268.out 4; have hfz114_5 := bF_ BK268.out 5; have hfz114_6 := bF_ BK268.out 6; have hfz114_7 := bF_ BK268.out 7; have hfz114_8 := bF_ BK268.out 8; have hnb115 := NB248_0.out; have hnc115 := NB0_248.out; have hcz116_0 : w111.cell? ⟨gb248, 0, none⟩ = some (.int .i64 0) := (bC_ BK248.out 0).trans rfl; have hcz116_1 : w111.cell? ⟨gb248, 1, none⟩ = some (.int .i64 0) := (bC_ BK248.out 1).trans rfl; have hcz116_2 : w111.cell? ⟨gb248, 2, none⟩ = some (.int .i64 0) := (bC_ BK248.out 2).trans rfl; have hcz116_3 : w111.cell? ⟨gb248, 3, none⟩ = some (.int .i64 0) := (bC_ BK248.out 3).trans rfl; have hcz116_4 : w111.cell? ⟨gb248, 4, none⟩ = some (.int .i64 0) := (bC_ BK248.out 4).trans rfl; have hcz116_5 : w111.cell? ⟨gb248, 5, none⟩ = some (.int .i64 0) := (bC_ BK248.out 5).trans rfl; have hcz116_6 : w111.cell? ⟨gb248, 6, none⟩ = some (.int .i64 0) := (bC_ BK248.out 6).trans rfl; have hcz116_7 : w111.cell? ⟨gb248, 7, none⟩ = some (.int .i64 0) := (bC_ BK248.out 7).trans rfl; have hcz116_8 : w111.cell? ⟨gb248, 8, none⟩ = some (.int .i64 0) := (bC_ BK248.out 8).trans rfl; have hfz116_0 := bF_ BK248.out 0; have hfz116_1 := bF_ BK248.out 1; have hfz116_2 := bF_ BK248.out 2; have hfz116_3 := bF_ BK248.out 3; have hfz116_4 := bF_ BK248.out 4; have hfz116_5 := bF_ BK248.out 5; have hfz116_6 := bF_ BK248.out 6; have hfz116_7 := bF_ BK248.out 7; have hfz116_8 := bF_ BK248.out 8))
            refine bodyPost_ret (results_cell_row rfl _ _ gb248 89 #[.int .i64 x269000_42, .int .i64 x269001_42, .int .i64 x269002_42, .int .i64 x269003_42, .int .i64 t296, .int .i64 x269005_42, .int .i64 x269006_42, .int .i64 x269007_42, .int .i64 x269008_42] (0, 0) _ rfl (by (with_reducible repeat (first | refine bN_ ?_ _ | refine bD_ ?_ | refine bA_ ?_ _)); refine bP_ (cs := #[.int .i64 x269000_42, .int .i64 x269001_42, .int .i64 x269002_42, .int .i64 x269003_42, .int .i64 t296, .int .i64 x269005_42, .int .i64 x269006_42, .int .i64 x269007_42, .int .i64 0]) ?_ 8 _ rfl; (with_reducible repeat (first | refine bN_ ?_ _ | refine bD_ ?_ | refine bA_ ?_ _)); refine bP_ (cs := #[.int .i64 x269000_42, .int .i64 x269001_42, .int .i64 x269002_42, .int .i64 x269003_42, .int .i64 t296, .int .i64 x269005_42, .int .i64 x269006_42, .int .i64 0, .int .i64 0]) ?_ 7 _ rfl; (with_reducible repeat (first | refine bN_ ?_ _ | refine bD_ ?_ | refine bA_ ?_ _)); refine bP_ (cs := #[.int .i64 x269000_42, .int .i64 x269001_42, .int .i64 x269002_42, .int .i64 x269003_42, .int .i64 t296, .int .i64 x269005_42, .int .i64 0, .int .i64 0, .int .i64 0]) ?_ 6 _ rfl; (with_reducible repeat (first | refine bN_ ?_ _ | refine bD_ ?_ | refine bA_ ?_ _)); refine bP_ (cs := #[.int .i64 x269000_42, .int .i64 x269001_42, .int .i64 x269002_42, .int .i64 x269003_42, .int .i64 t296, .int .i64 0, .int .i64 0, .int .i64 0, .int .i64 0]) ?_ 5 _ rfl; (with_reducible repeat (first | refine bN_ ?_ _ | refine bD_ ?_ | refine bA_ ?_ _)); refine bP_ (cs := #[.int .i64 x269000_42, .int .i64 x269001_42, .int .i64 x269002_42, .int .i64 x269003_42, .int .i64 0, .int .i64 0, .int .i64 0, .int .i64 0, .int .i64 0]) ?_ 4 _ rfl; (with_reducible repeat (first | refine bN_ ?_ _ | refine bD_ ?_ | refine bA_ ?_ _)); refine bP_ (cs := #[.int .i64 x269000_42, .int .i64 x269001_42, .int .i64 x269002_42, .int .i64 0, .int .i64 0, .int .i64 0, .int .i64 0, .int .i64 0, .int .i64 0]) ?_ 3 _ rfl; (with_reducible repeat (first | refine bN_ ?_ _ | refine bD_ ?_ | refine bA_ ?_ _)); refine bP_ (cs := #[.int .i64 x269000_42, .int .i64 x269001_42, .int .i64 0, .int .i64 0, .int .i64 0, .int .i64 0, .int .i64 0, .int .i64 0, .int .i64 0]) ?_ 2 _ rfl; (with_reducible repeat (first | refine bN_ ?_ _ | refine bD_ ?_ | refine bA_ ?_ _)); refine bP_ (cs := #[.int .i64 x269000_42, .int .i64 0, .int .i64 0, .int .i64 0, .int .i64 0, .int .i64 0, .int .i64 0, .int .i64 0, .int .i64 0]) ?_ 1 _ rfl; (with_reducible repeat (first | refine bN_ ?_ _ | refine bD_ ?_ | refine bA_ ?_ _)); refine bP_ (cs := #[.int .i64 0, .int .i64 0, .int .i64 0, .int .i64 0, .int .i64 0, .int .i64 0, .int .i64 0, .int .i64 0, .int .i64 0]) ?_ 0 _ rfl; (with_reducible repeat (first | refine bN_ ?_ _ | refine bD_ ?_ | refine bA_ ?_ _)); refine bR_ ?_ NB248_268.out _; (with_reducible repeat (first | refine bN_ ?_ _ | refine bD_ ?_ | refine bA_ ?_ _)); exact BK248.out) Try.underlying89 rfl (by kernel_rfl)) rfl ?_
            exact ⟨by first | rfl | (simp [errW_none, errW_some] <;> rfl) | (simp [*, errW_none, errW_some] <;> rfl), by repeat (first | (with_reducible first | exact HI0.out | apply I81_.alloc | apply I81_.drewN | apply I81_.drew | apply I81_.set_1 | refine I81_.far ?_ NB0_248.out _ | refine I81_.far ?_ NB0_268.out _) | exact HI0.out), by repeat (first | (with_reducible first | exact HB.out | apply eA_ | apply pN_ | apply eD_ | refine eS_ ?_ (I81_.ge HI0.out) | refine eS_ ?_ GE248.out | refine eS_ ?_ GE268.out) | exact HB.out), by repeat (first | (with_reducible first | exact HK.out | apply KeepBut.set_ | apply kN_ | apply kD_ | apply kA_ | refine kF_ ?_ GW248.out _ | refine kF_ ?_ GW268.out _) | exact HK.out)⟩
           ·rw [if_neg c107] at H
            have c107b0 : (t279 == 3) = false := beq_eq_false_iff_ne.mpr c107
            have c107b1 : (t279 != 3) = true := bne_iff_ne.mpr c107
            replace H := Option.bind_eq_some_iff.mp H
            obtain ⟨⟨t298, t299, t300, t301, t302⟩, A1170, H⟩ := H
            replace H : (some (x269000_42, x269001_42, x269002_42, x269003_42, x269004_42, t298, t299, t300, t301, t302)) = some (r1, r2, r3, r4, r5, r6, r7, r8, r9, r10) := H
            have A117 := Az_.mk A1170
            clear A1170
            simp only [Option.some.injEq, Prod.mk.injEq] at H
            obtain ⟨rfl, rfl, rfl, rfl, rfl, rfl, rfl, rfl, rfl, rfl⟩ := H
            go_wp2_with (first | ((with_reducible refine gate_callee (f := 53) rfl ?_); refine goesL_ (some 44) rfl rfl Try.func53 (by kernel_rfl) rfl #[.pointer (some ⟨g, 0, none⟩), .int .i64 a1] rfl (by (try simp only [List.map_toArray, List.map_cons, List.map_nil]); first | done | rfl | (simp only [List.length_drop, List.length_take]; rfl)) ?_; (with_reducible refine (spec_l20Rd_pick.calls kj42 g s0_0 x1001_42 a1 t277 t278 w0 _ ?side1 ?side2 A58.out).mono ?_); (case side1 => repeat (first | (with_reducible first | exact HI0.out | apply I81_.alloc | apply I81_.drewN | apply I81_.drew | apply I81_.set_1 | refine I81_.far ?_ NB0_248.out _ | refine I81_.far ?_ NB0_268.out _) | exact HI0.out)); (case side2 => repeat (first | (with_reducible first | exact HB.out | apply eA_ | apply pN_ | apply eD_ | refine eS_ ?_ (I81_.ge HI0.out) | refine eS_ ?_ GE248.out | refine eS_ ?_ GE268.out) | exact HB.out)); rintro e w118 ⟨rfl, hi, hb, hk⟩; refine ⟨_, rfl, ?_⟩; have n0_ := Az_.mk (KeepBut.blk hk (g' := gb248) (o := .cells #[.int .i64 0, .int .i64 0, .int .i64 0, .int .i64 0, .int .i64 0, .int .i64 0, .int .i64 0, .int .i64 0, .int .i64 0] 89 (0, 0)) (by (with_reducible repeat (first | refine bN_ ?_ _ | refine bD_ ?_ | refine bA_ ?_ _)); exact BK248.out) NB248_0.out (by simp)); have n1_ := Az_.mk (KeepBut.blk hk (g' := gb268) (o := .cells #[.int .i64 x269000_42, .int .i64 x269001_42, .int .i64 x269002_42, .int .i64 x269003_42, .int .i64 x269004_42, .int .i64 x269005_42, .int .i64 x269006_42, .int .i64 x269007_42, .int .i64 x269008_42] 89 (0, 0)) (by (with_reducible repeat (first | refine bN_ ?_ _ | refine bD_ ?_ | refine bA_ ?_ _)); exact BK268.out) NB268_0.out (by simp)); have n2_ := Az_.mk (KeepBut.trans (by repeat (first | (with_reducible first | exact HK.out | apply KeepBut.set_ | apply kN_ | apply kD_ | apply kA_ | refine kF_ ?_ GW248.out _ | refine kF_ ?_ GW268.out _) | exact HK.out)) hk (.inl rfl)); have n3_ := Az_.mk (hb); have n4_ := Az_.mk (hi); clear BK248; clear BK268; clear HK; clear HB; clear HI0; have BK248 := n0_; have BK268 := n1_; have HK := n2_; have HB := n3_; have HI0 := n4_; clear n0_ n1_ n2_ n3_ n4_; (try clear hb); (try clear hb2); (try clear hk); (try clear hi)) | ((with_reducible refine gate_callee (f := 53) rfl ?_); refine goesL_ (some 48) rfl rfl Try.func53 (by kernel_rfl) rfl #[.pointer (some ⟨g, 0, none⟩), .int .i64 5] rfl (by (try simp only [List.map_toArray, List.map_cons, List.map_nil]); first | done | rfl | (simp only [List.length_drop, List.length_take]; rfl)) ?_; (with_reducible refine (spec_l20Rd_pick.calls kj42 g s0_0 t278 5 t279 t280 w0 _ ?side1 ?side2 A66.out).mono ?_); (case side1 => repeat (first | (with_reducible first | exact HI0.out | apply I81_.alloc | apply I81_.drewN | apply I81_.drew | apply I81_.set_1 | refine I81_.far ?_ NB0_248.out _ | refine I81_.far ?_ NB0_268.out _) | exact HI0.out)); (case side2 => repeat (first | (with_reducible first | exact HB.out | apply eA_ | apply pN_ | apply eD_ | refine eS_ ?_ (I81_.ge HI0.out) | refine eS_ ?_ GE248.out | refine eS_ ?_ GE268.out) | exact HB.out)); rintro e w119 ⟨rfl, hi, hb, hk⟩; refine ⟨_, rfl, ?_⟩; have n0_ := Az_.mk (KeepBut.blk hk (g' := gb248) (o := .cells #[.int .i64 0, .int .i64 0, .int .i64 0, .int .i64 0, .int .i64 0, .int .i64 0, .int .i64 0, .int .i64 0, .int .i64 0] 89 (0, 0)) (by (with_reducible repeat (first | refine bN_ ?_ _ | refine bD_ ?_ | refine bA_ ?_ _)); exact BK248.out) NB248_0.out (by simp)); have n1_ := Az_.mk (KeepBut.blk hk (g' := gb268) (o := .cells #[.int .i64 x269000_42, .int .i64 x269001_42, .int .i64 x269002_42, .int .i64 x269003_42, .int .i64 x269004_42, .int .i64 x269005_42, .int .i64 x269006_42, .int .i64 x269007_42, .int .i64 x269008_42] 89 (0, 0)) (by (with_reducible repeat (first | refine bN_ ?_ _ | refine bD_ ?_ | refine bA_ ?_ _)); exact BK268.out) NB268_0.out (by simp)); have n2_ := Az_.mk (KeepBut.trans (by repeat (first | (with_reducible first | exact HK.out | apply KeepBut.set_ | apply kN_ | apply kD_ | apply kA_ | refine kF_ ?_ GW248.out _ | refine kF_ ?_ GW268.out _) | exact HK.out)) hk (.inl rfl)); have n3_ := Az_.mk (hb); have n4_ := Az_.mk (hi); clear BK248; clear BK268; clear HK; clear HB; clear HI0; have BK248 := n0_; have BK268 := n1_; have HK := n2_; have HB := n3_; have HI0 := n4_; clear n0_ n1_ n2_ n3_ n4_; (try clear hb); (try clear hb2); (try clear hk); (try clear hi)) | ((with_reducible refine gate_callee (f := 54) rfl ?_); refine goesL_ (some 50) rfl rfl Try.func54 (by kernel_rfl) rfl #[.pointer (some ⟨g, 0, none⟩), .int .i64 1] rfl (by (try simp only [List.map_toArray, List.map_cons, List.map_nil]); first | done | rfl | (simp only [List.length_drop, List.length_take]; rfl)) ?_; (with_reducible refine (spec_l20Agg.calls kj42 g s0_0 t280 1 t298 t299 t300 t301 t302 w0 _ ?side1 ?side2 A117.out).mono ?_); (case side1 => repeat (first | (with_reducible first | exact HI0.out | apply I81_.alloc | apply I81_.drewN | apply I81_.drew | apply I81_.set_1 | refine I81_.far ?_ NB0_248.out _ | refine I81_.far ?_ NB0_268.out _) | exact HI0.out)); (case side2 => repeat (first | (with_reducible first | exact HB.out | apply eA_ | apply pN_ | apply eD_ | refine eS_ ?_ (I81_.ge HI0.out) | refine eS_ ?_ GE248.out | refine eS_ ?_ GE268.out) | exact HB.out)); rintro e w120 ⟨rfl, hi, hb, hk⟩; refine ⟨_, rfl, ?_⟩; have n0_ := Az_.mk (KeepBut.blk hk (g' := gb248) (o := .cells #[.int .i64 0, .int .i64 0, .int .i64 0, .int .i64 0, .int .i64 0, .int .i64 0, .int .i64 0, .int .i64 0, .int .i64 0] 89 (0, 0)) (by (with_reducible repeat (first | refine bN_ ?_ _ | refine bD_ ?_ | refine bA_ ?_ _)); exact BK248.out) NB248_0.out (by simp)); have n1_ := Az_.mk (KeepBut.blk hk (g' := gb268) (o := .cells #[.int .i64 x269000_42, .int .i64 x269001_42, .int .i64 x269002_42, .int .i64 x269003_42, .int .i64 x269004_42, .int .i64 x269005_42, .int .i64 x269006_42, .int .i64 x269007_42, .int .i64 x269008_42] 89 (0, 0)) (by (with_reducible repeat (first | refine bN_ ?_ _ | refine bD_ ?_ | refine bA_ ?_ _)); exact BK268.out) NB268_0.out (by simp)); have n2_ := Az_.mk (KeepBut.trans (by repeat (first | (with_reducible first | exact HK.out | apply KeepBut.set_ | apply kN_ | apply kD_ | apply kA_ | refine kF_ ?_ GW248.out _ | refine kF_ ?_ GW268.out _) | exact HK.out)) hk (.inl rfl)); have n3_ := Az_.mk (hb); have n4_ := Az_.mk (hi); clear BK248; clear BK268; clear HK; clear HB; clear HI0; have BK248 := n0_; have BK268 := n1_; have HK := n2_; have HB := n3_; have HI0 := n4_; clear n0_ n1_ n2_ n3_ n4_; (try clear hb); (try clear hb2); (try clear hk); (try clear hi); have hnb121 := NB268_248.out; have hnc121 := NB248_268.out; have hnb122 := NB268_0.out; have hnc122 := NB0_268.out; have hcz123_0 : w120.cell? ⟨gb268, 0, none⟩ = some (.int .i64 x269000_42) := (bC_ BK268.out 0).trans rfl; have hcz123_1 : w120.cell? ⟨gb268, 1, none⟩ = some (.int .i64 x269001_42) := (bC_ BK268.out 1).trans rfl; have hcz123_2 : w120.cell? ⟨gb268, 2, none⟩ = some (.int .i64 x269002_42) := (bC_ BK268.out 2).trans rfl; have hcz123_3 : w120.cell? ⟨gb268, 3, none⟩ = some (.int .i64 x269003_42) := (bC_ BK268.out 3).trans rfl; have hcz123_4 : w120.cell? ⟨gb268, 4, none⟩ = some (.int .i64 x269004_42) := (bC_ BK268.out 4).trans rfl; have hcz123_5 : w120.cell? ⟨gb268, 5, none⟩ = some (.int .i64 x269005_42) := (bC_ BK268.out 5).trans rfl; have hcz123_6 : w120.cell? ⟨gb268, 6, none⟩ = some (.int .i64 x269006_42) := (bC_ BK268.out 6).trans rfl; have hcz123_7 : w120.cell? ⟨gb268, 7, none⟩ = some (.int .i64 x269007_42) := (bC_ BK268.out 7).trans rfl; have hcz123_8 : w120.cell? ⟨gb268, 8, none⟩ = some (.int .i64 x269008_42) := (bC_ BK268.out 8).trans rfl; have hfz123_0 := bF_ BK268.out 0; have hfz123_1 := bF_ BK268.out 1; have hfz123_2 := bF_ BK268.out 2; have hfz123_3 := bF_ BK268.out 3; have hfz123_4 := bF_ BK268.out 4; have hfz123_5 := bF_ BK268.out 5; have hfz123_6 := bF_ BK268.out 6; have hfz123_7 := bF_ BK268.out 7; have hfz123_8 := bF_ BK268.out 8; have hnb124 := NB248_0.out; have hnc124 := NB0_248.out; have hcz125_0 : w120.cell? ⟨gb248, 0, none⟩ = some (.int .i64 0) := (bC_ BK248.out 0).trans rfl; have hcz125_1 : w120.cell? ⟨gb248, 1, none⟩ = some (.int .i64 0) := (bC_ BK248.out 1).trans rfl; have hcz125_2 : w120.cell? ⟨gb248, 2, none⟩ = some (.int .i64 0) := (bC_ BK248.out 2).trans rfl; have hcz125_3 : w120.cell? ⟨gb248, 3, none⟩ = some (.int .i64 0) := (bC_ BK248.out 3).trans rfl; have hcz125_4 : w120.cell? ⟨gb248, 4, none⟩ = some (.int .i64 0) := (bC_ BK248.out 4).trans rfl; have hcz125_5 : w120.cell? ⟨gb248, 5, none⟩ = some (.int .i64 0) := (bC_ BK248.out 5).trans rfl; have hcz125_6 : w120.cell? ⟨gb248, 6, none⟩ = some (.int .i64 0) := (bC_ BK248.out 6).trans rfl; have hcz125_7 : w120.cell? ⟨gb248, 7, none⟩ = some (.int .i64 0) := (bC_ BK248.out 7).trans rfl; have hcz125_8 : w120.cell? ⟨gb248, 8, none⟩ = some (.int .i64 0) := (bC_ BK248.out 8).trans rfl; have hfz125_0 := bF_ BK248.out 0; have hfz125_1 := bF_ BK248.out 1; have hfz125_2 := bF_ BK248.out 2; have hfz125_3 := bF_ BK248.out 3; have hfz125_4 := bF_ BK248.out 4; have hfz125_5 := bF_ BK248.out 5; have hfz125_6 := bF_ BK248.out 6; have hfz125_7 := bF_ BK248.out 7; have hfz125_8 := bF_ BK248.out 8))
            refine bodyPost_ret (results_cell_row rfl _ _ gb248 89 #[.int .i64 x269000_42, .int .i64 x269001_42, .int .i64 x269002_42, .int .i64 x269003_42, .int .i64 x269004_42, .int .i64 t298, .int .i64 t299, .int .i64 t300, .int .i64 t301] (0, 0) _ rfl (by (with_reducible repeat (first | refine bN_ ?_ _ | refine bD_ ?_ | refine bA_ ?_ _)); refine bP_ (cs := #[.int .i64 x269000_42, .int .i64 x269001_42, .int .i64 x269002_42, .int .i64 x269003_42, .int .i64 x269004_42, .int .i64 t298, .int .i64 t299, .int .i64 t300, .int .i64 0]) ?_ 8 _ rfl; (with_reducible repeat (first | refine bN_ ?_ _ | refine bD_ ?_ | refine bA_ ?_ _)); refine bP_ (cs := #[.int .i64 x269000_42, .int .i64 x269001_42, .int .i64 x269002_42, .int .i64 x269003_42, .int .i64 x269004_42, .int .i64 t298, .int .i64 t299, .int .i64 0, .int .i64 0]) ?_ 7 _ rfl; (with_reducible repeat (first | refine bN_ ?_ _ | refine bD_ ?_ | refine bA_ ?_ _)); refine bP_ (cs := #[.int .i64 x269000_42, .int .i64 x269001_42, .int .i64 x269002_42, .int .i64 x269003_42, .int .i64 x269004_42, .int .i64 t298, .int .i64 0, .int .i64 0, .int .i64 0]) ?_ 6 _ rfl; (with_reducible repeat (first | refine bN_ ?_ _ | refine bD_ ?_ | refine bA_ ?_ _)); refine bP_ (cs := #[.int .i64 x269000_42, .int .i64 x269001_42, .int .i64 x269002_42, .int .i64 x269003_42, .int .i64 x269004_42, .int .i64 0, .int .i64 0, .int .i64 0, .int .i64 0]) ?_ 5 _ rfl; (with_reducible repeat (first | refine bN_ ?_ _ | refine bD_ ?_ | refine bA_ ?_ _)); refine bP_ (cs := #[.int .i64 x269000_42, .int .i64 x269001_42, .int .i64 x269002_42, .int .i64 x269003_42, .int .i64 0, .int .i64 0, .int .i64 0, .int .i64 0, .int .i64 0]) ?_ 4 _ rfl; (with_reducible repeat (first | refine bN_ ?_ _ | refine bD_ ?_ | refine bA_ ?_ _)); refine bP_ (cs := #[.int .i64 x269000_42, .int .i64 x269001_42, .int .i64 x269002_42, .int .i64 0, .int .i64 0, .int .i64 0, .int .i64 0, .int .i64 0, .int .i64 0]) ?_ 3 _ rfl; (with_reducible repeat (first | refine bN_ ?_ _ | refine bD_ ?_ | refine bA_ ?_ _)); refine bP_ (cs := #[.int .i64 x269000_42, .int .i64 x269001_42, .int .i64 0, .int .i64 0, .int .i64 0, .int .i64 0, .int .i64 0, .int .i64 0, .int .i64 0]) ?_ 2 _ rfl; (with_reducible repeat (first | refine bN_ ?_ _ | refine bD_ ?_ | refine bA_ ?_ _)); refine bP_ (cs := #[.int .i64 x269000_42, .int .i64 0, .int .i64 0, .int .i64 0, .int .i64 0, .int .i64 0, .int .i64 0, .int .i64 0, .int .i64 0]) ?_ 1 _ rfl; (with_reducible repeat (first | refine bN_ ?_ _ | refine bD_ ?_ | refine bA_ ?_ _)); refine bP_ (cs := #[.int .i64 0, .int .i64 0, .int .i64 0, .int .i64 0, .int .i64 0, .int .i64 0, .int .i64 0, .int .i64 0, .int .i64 0]) ?_ 0 _ rfl; (with_reducible repeat (first | refine bN_ ?_ _ | refine bD_ ?_ | refine bA_ ?_ _)); refine bR_ ?_ NB248_268.out _; (with_reducible repeat (first | refine bN_ ?_ _ | refine bD_ ?_ | refine bA_ ?_ _)); refine bR_ ?_ NB248_268.out _; (with_reducible repeat (first | refine bN_ ?_ _ | refine bD_ ?_ | refine bA_ ?_ _)); refine bR_ ?_ NB248_268.out _; (with_reducible repeat (first | refine bN_ ?_ _ | refine bD_ ?_ | refine bA_ ?_ _)); refine bR_ ?_ NB248_268.out _; (with_reducible repeat (first | refine bN_ ?_ _ | refine bD_ ?_ | refine bA_ ?_ _)); exact BK248.out) Try.underlying89 rfl (by kernel_rfl)) rfl ?_
            exact ⟨by first | rfl | (simp [errW_none, errW_some] <;> rfl) | (simp [*, errW_none, errW_some] <;> rfl), by repeat (first | (with_reducible first | exact HI0.out | apply I81_.alloc | apply I81_.drewN | apply I81_.drew | apply I81_.set_1 | refine I81_.far ?_ NB0_248.out _ | refine I81_.far ?_ NB0_268.out _) | exact HI0.out), by repeat (first | (with_reducible first | exact HB.out | apply eA_ | apply pN_ | apply eD_ | refine eS_ ?_ (I81_.ge HI0.out) | refine eS_ ?_ GE248.out | refine eS_ ?_ GE268.out) | exact HB.out), by repeat (first | (with_reducible first | exact HK.out | apply KeepBut.set_ | apply kN_ | apply kD_ | apply kA_ | refine kF_ ?_ GW248.out _ | refine kF_ ?_ GW268.out _) | exact HK.out)⟩
  ·rw [if_neg c6] at H
   exact absurd H (by simp)
 ·rw [if_neg c5] at H
  exact absurd H (by simp)

end Go.Proofs.Ytjclmjmbhhlbcaa.PFnTabOut
-- thin
