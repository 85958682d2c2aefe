/- Functions of the program as Lean functions, with their contracts, written by a program of mine over the kit's printer and in part by hand. No condition of its own. -/
import Derived.Test.YtkmckalckafloaaQFnWinStepx0
import Derived.Test.YtkmckalckafloaaQFnWinStepx2
namespace Go.Proofs.Ytkmckalckafloaa.PFnWinStep
open Go.RowKit Go.Proofs.YtkmckalckafloaaW.PrintWords Go.Proofs.YtkmckalckafloaaW.PrintLast Go.Proofs.YtkmckalckafloaaW.PrintMore
attribute [local go_sem] max2_int min2_int max_two min_two max_three min_three max_four min_four   -- for this text's walks alone
set_option linter.unusedVariables false
set_option linter.unusedSimpArgs false

/-! ### spec_l20Job: function 88 -/
mutual
def spec_l20Job.j2 : Nat → List Int → Int → Int → Int → Int → Int → Int → Int → Int → Bool → Int → Int → Option (Int × Int × Int × Int × Int × Int × Int × Bool × Int × Int × Int)
 | 0, _, _, _, _, _, _, _, _, _, _, _, _ => none
 | k + 1, x1000, x1001, x139000, x139001, x139002, x139003, x139004, x139005, x139006, x139007, x139008, x139009 => some (x139000, x139001, x139002, x139003, x139004, x139005, x139006, x139007, x139008, x139009, x1001)
def spec_l20Job.j0 : Nat → Bool → List Int → Int → Int → Int → Int → Int → Int → Int → Int → Bool → Int → Int → Option (Int × Int × Int × Int × Int × Int × Int × Bool × Int × Int × Int)
 | 0, _, _, _, _, _, _, _, _, _, _, _, _, _ => none
 | k + 1, x68, x1000, x1001, x139000, x139001, x139002, x139003, x139004, x139005, x139006, x139007, x139008, x139009 => if x68 = true then (spec_l20Job.j1 k x1000 x1001 x139000 x139001 x139002 x139003 (wrap64 (Int.tdiv (wrap64 (x139003 + 1)) 2)) x139005 x139006 x139007 x139008 x139009) else (spec_l20Job.j1 k x1000 x1001 x139000 x139001 x139002 x139003 x139004 x139005 x139006 x139007 x139008 x139009)
def spec_l20Job.j1 : Nat → List Int → Int → Int → Int → Int → Int → Int → Int → Int → Bool → Int → Int → Option (Int × Int × Int × Int × Int × Int × Int × Bool × Int × Int × Int)
 | 0, _, _, _, _, _, _, _, _, _, _, _, _ => none
 | k + 1, x1000, x1001, x139000, x139001, x139002, x139003, x139004, x139005, x139006, x139007, x139008, x139009 => spec_l20Job.j2 k x1000 x1001 x139000 x139001 x139002 x139003 x139004 x139005 x139006 x139007 x139008 x139009
end
def spec_l20Job.f (k : Nat) (s0_0 : List Int) (s0_1 : Int) : Option (Int × Int × Int × Int × Int × Int × Int × Bool × Int × Int × Int) := (spec_l20Rd_pick.f k s0_0 s0_1 3).bind fun bt108 => ((spec_l20Rd_pick.f k s0_0 bt108.2 2).bind fun bt110 => ((spec_l20Rd_pick.f k s0_0 bt110.2 3).bind fun bt112 => ((some (([1, 3, 5, 8, 10, 20] : List Int) : List Int)).bind fun y114 => ((spec_l20Rd_pick.f k s0_0 bt112.2 6).bind fun bt117 => (if 0 ≤ bt117.1 then (if bt117.1 < (y114.length : Int) then ((some (([0, 2, 5, 12, 20] : List Int) : List Int)).bind fun y120 => ((spec_l20Rd_pick.f k s0_0 bt117.2 5).bind fun bt123 => (if 0 ≤ bt123.1 then (if bt123.1 < (y120.length : Int) then ((spec_l20Rd_pick.f k s0_0 bt123.2 4).bind fun bt126 => ((spec_l20Rd_pick.f k s0_0 bt126.2 2).bind fun bt128 => ((some (([(-9), (-9), (-9), 0, 5] : List Int) : List Int)).bind fun y130 => ((spec_l20Rd_pick.f k s0_0 bt128.2 5).bind fun bt133 => (if 0 ≤ bt133.1 then (if bt133.1 < (y130.length : Int) then ((spec_l20Rd_pick.f k s0_0 bt133.2 4).bind fun bt136 => (if (wrap64 (1 + bt112.1)) = 2 then ((spec_l20Rd_pick.f k s0_0 bt136.2 4).bind fun bt139 => ((spec_l20Rd_pick.f k s0_0 bt139.2 4).bind fun bt141 => (if (wrap64 (1 + bt141.1)) = 0 then (none) else (if (wrap64 (Int.tdiv (wrap64 ((rd y114 bt117.1) + bt139.1)) (wrap64 (1 + bt141.1)))) < 1 then (spec_l20Job.j0 k true s0_0 bt141.2 (wrap64 (1 + bt108.1)) (wrap64 (1 + bt110.1)) (wrap64 (1 + bt112.1)) (rd y114 bt117.1) (wrap64 (Int.tdiv (wrap64 ((rd y114 bt117.1) + bt139.1)) (wrap64 (1 + bt141.1)))) (rd y120 bt123.1) (wrap64 (1 + bt126.1)) (bt128.1 == 0) (rd y130 bt133.1) (wrap64 (1 + bt136.1))) else (if (wrap64 (4 * (wrap64 (Int.tdiv (wrap64 ((rd y114 bt117.1) + bt139.1)) (wrap64 (1 + bt141.1)))))) < (rd y114 bt117.1) then (spec_l20Job.j0 k true s0_0 bt141.2 (wrap64 (1 + bt108.1)) (wrap64 (1 + bt110.1)) (wrap64 (1 + bt112.1)) (rd y114 bt117.1) (wrap64 (Int.tdiv (wrap64 ((rd y114 bt117.1) + bt139.1)) (wrap64 (1 + bt141.1)))) (rd y120 bt123.1) (wrap64 (1 + bt126.1)) (bt128.1 == 0) (rd y130 bt133.1) (wrap64 (1 + bt136.1))) else (spec_l20Job.j0 k (decide ((wrap64 (Int.tdiv (wrap64 ((rd y114 bt117.1) + bt139.1)) (wrap64 (1 + bt141.1)))) > (rd y114 bt117.1))) s0_0 bt141.2 (wrap64 (1 + bt108.1)) (wrap64 (1 + bt110.1)) (wrap64 (1 + bt112.1)) (rd y114 bt117.1) (wrap64 (Int.tdiv (wrap64 ((rd y114 bt117.1) + bt139.1)) (wrap64 (1 + bt141.1)))) (rd y120 bt123.1) (wrap64 (1 + bt126.1)) (bt128.1 == 0) (rd y130 bt133.1) (wrap64 (1 + bt136.1)))))))) else (spec_l20Job.j2 k s0_0 bt136.2 (wrap64 (1 + bt108.1)) (wrap64 (1 + bt110.1)) (wrap64 (1 + bt112.1)) (rd y114 bt117.1) 0 (rd y120 bt123.1) (wrap64 (1 + bt126.1)) (bt128.1 == 0) (rd y130 bt133.1) (wrap64 (1 + bt136.1))))) else (none)) else (none)))))) else (none)) else (none)))) else (none)) else (none))))))
theorem spec_l20Job.mono_l : ∀ k, (∀ y0 y1 y2 y3 y4 y5 y6 y7 y8 y9 y10 y11, LeO (spec_l20Job.j2 k y0 y1 y2 y3 y4 y5 y6 y7 y8 y9 y10 y11) (spec_l20Job.j2 (k + 1) y0 y1 y2 y3 y4 y5 y6 y7 y8 y9 y10 y11)) ∧ (∀ y0 y1 y2 y3 y4 y5 y6 y7 y8 y9 y10 y11 y12, LeO (spec_l20Job.j0 k y0 y1 y2 y3 y4 y5 y6 y7 y8 y9 y10 y11 y12) (spec_l20Job.j0 (k + 1) y0 y1 y2 y3 y4 y5 y6 y7 y8 y9 y10 y11 y12)) ∧ (∀ y0 y1 y2 y3 y4 y5 y6 y7 y8 y9 y10 y11, LeO (spec_l20Job.j1 k y0 y1 y2 y3 y4 y5 y6 y7 y8 y9 y10 y11) (spec_l20Job.j1 (k + 1) y0 y1 y2 y3 y4 y5 y6 y7 y8 y9 y10 y11))
 | 0 => ⟨fun _ _ _ _ _ _ _ _ _ _ _ _ r h => by simp [spec_l20Job.j2] at h, fun _ _ _ _ _ _ _ _ _ _ _ _ _ r h => by simp [spec_l20Job.j0] at h, fun _ _ _ _ _ _ _ _ _ _ _ _ r h => by simp [spec_l20Job.j1] at h⟩
 | k + 1 => by
  obtain ⟨ih0, ih1, ih2⟩ := spec_l20Job.mono_l k
  refine ⟨?_, ?_, ?_⟩
  ·intro y0 y1 y2 y3 y4 y5 y6 y7 y8 y9 y10 y11
   unfold spec_l20Job.j2
   repeat' first
   | (with_reducible exact ih0 _ _ _ _ _ _ _ _ _ _ _ _)
   | (with_reducible exact ih1 _ _ _ _ _ _ _ _ _ _ _ _ _)
   | (with_reducible exact ih2 _ _ _ _ _ _ _ _ _ _ _ _)
   | (with_reducible exact spec_l20Rd_pick.mono _ _ _ _)
   | (with_reducible exact LeO.refl _)
   | (with_reducible exact LeO.none _)
   | (with_reducible refine LeO.ite ?_ ?_)
   | (with_reducible refine LeO.bind ?_ (fun _ => ?_))
   | exact ih0 _ _ _ _ _ _ _ _ _ _ _ _
   | exact ih1 _ _ _ _ _ _ _ _ _ _ _ _ _
   | exact ih2 _ _ _ _ _ _ _ _ _ _ _ _
   | exact spec_l20Rd_pick.mono _ _ _ _
   | exact LeO.none _
   | refine LeO.ite ?_ ?_
   | refine LeO.bind ?_ (fun _ => ?_)
  ·intro y0 y1 y2 y3 y4 y5 y6 y7 y8 y9 y10 y11 y12
   unfold spec_l20Job.j0
   repeat' first
   | (with_reducible exact ih0 _ _ _ _ _ _ _ _ _ _ _ _)
   | (with_reducible exact ih1 _ _ _ _ _ _ _ _ _ _ _ _ _)
   | (with_reducible exact ih2 _ _ _ _ _ _ _ _ _ _ _ _)
   | (with_reducible exact spec_l20Rd_pick.mono _ _ _ _)
   | (with_reducible exact LeO.refl _)
   | (with_reducible exact LeO.none _)
   | (with_reducible refine LeO.ite ?_ ?_)
   | (with_reducible refine LeO.bind ?_ (fun _ => ?_))
   | exact ih0 _ _ _ _ _ _ _ _ _ _ _ _
   | exact ih1 _ _ _ _ _ _ _ _ _ _ _ _ _
   | exact ih2 _ _ _ _ _ _ _ _ _ _ _ _
   | exact spec_l20Rd_pick.mono _ _ _ _
   | exact LeO.none _
   | refine LeO.ite ?_ ?_
   | refine LeO.bind ?_ (fun _ => ?_)
  ·intro y0 y1 y2 y3 y4 y5 y6 y7 y8 y9 y10 y11
   unfold spec_l20Job.j1
   repeat' first
   | (with_reducible exact ih0 _ _ _ _ _ _ _ _ _ _ _ _)
   | (with_reducible exact ih1 _ _ _ _ _ _ _ _ _ _ _ _ _)
   | (with_reducible exact ih2 _ _ _ _ _ _ _ _ _ _ _ _)
   | (with_reducible exact spec_l20Rd_pick.mono _ _ _ _)
   | (with_reducible exact LeO.refl _)
   | (with_reducible exact LeO.none _)
   | (with_reducible refine LeO.ite ?_ ?_)
   | (with_reducible refine LeO.bind ?_ (fun _ => ?_))
   | exact ih0 _ _ _ _ _ _ _ _ _ _ _ _
   | exact ih1 _ _ _ _ _ _ _ _ _ _ _ _ _
   | exact ih2 _ _ _ _ _ _ _ _ _ _ _ _
   | exact spec_l20Rd_pick.mono _ _ _ _
   | exact LeO.none _
   | refine LeO.ite ?_ ?_
   | refine LeO.bind ?_ (fun _ => ?_)
theorem spec_l20Job.mono : ∀ a0 a1 k, LeO (spec_l20Job.f k a0 a1) (spec_l20Job.f (k + 1) a0 a1) := by
 intro a0 a1 k
 obtain ⟨ih0, ih1, ih2⟩ := spec_l20Job.mono_l k
 unfold spec_l20Job.f
 repeat' first
   | (with_reducible exact ih0 _ _ _ _ _ _ _ _ _ _ _ _)
   | (with_reducible exact ih1 _ _ _ _ _ _ _ _ _ _ _ _ _)
   | (with_reducible exact ih2 _ _ _ _ _ _ _ _ _ _ _ _)
   | (with_reducible exact spec_l20Rd_pick.mono _ _ _ _)
   | (with_reducible exact LeO.refl _)
   | (with_reducible exact LeO.none _)
   | (with_reducible refine LeO.ite ?_ ?_)
   | (with_reducible refine LeO.bind ?_ (fun _ => ?_))
   | exact ih0 _ _ _ _ _ _ _ _ _ _ _ _
   | exact ih1 _ _ _ _ _ _ _ _ _ _ _ _ _
   | exact ih2 _ _ _ _ _ _ _ _ _ _ _ _
   | exact spec_l20Rd_pick.mono _ _ _ _
   | exact LeO.none _
   | refine LeO.ite ?_ ?_
   | refine LeO.bind ?_ (fun _ => ?_)
def spec_l20Job.T1 : Bool × List (List Nat × List Nat) := (true, [([], []), ([0], [0]), ([1], [1]), ([], []), ([3, 1], [3]), ([4], [4]), ([], []), ([6, 4], [6]), ([7], [7]), ([], []), ([], []), ([10, 7], [10]), ([9, 11], [9, 11]), ([12], [12]), ([], []), ([], []), ([15, 11], [15]), ([14, 16], [14, 16]), ([17], [17]), ([], []), ([19, 16], [19]), ([20], [20]), ([], []), ([22, 20], [22]), ([23], [23]), ([], []), ([], []), ([26, 23], [26]), ([25, 27], [25, 27]), ([28], [28]), ([], []), ([30, 27], [30]), ([31], [31]), ([2, 5, 8, 13, 18, 21, 24, 29, 32], [2, 5, 8, 13, 18, 21, 24, 29, 32]), ([], []), ([34, 33, 31, 0, 1, 2, 3, 4, 5, 6, 7, 8, 9, 10, 11, 12, 13, 14, 15, 16, 17, 18, 19, 20, 21, 22, 23, 24, 25, 26, 27, 28, 29, 30, 31, 32, 33, 34], [33, 34])])
def spec_l20Job.B1 : List Nat := [0, 1, 3, 0, 11, 27, 0, 91, 219, 0, 0, 1243, 3803, 7899, 0, 0, 36059, 117979, 249051, 0, 625883, 1674459, 0, 5868763, 14257371, 0, 0, 81366235, 249138395, 517573851, 0, 1289325787, 3436809435, 8589934591, 0, 34359738367]
theorem spec_l20Job.tab1 : rtab .any (opsOf Try.f88 1) = spec_l20Job.T1 := by kernel_rfl
theorem spec_l20Job.bits1 : waitsOk spec_l20Job.T1.2 spec_l20Job.B1 = true := by kernel_rfl
def spec_l20Job.T3 : Bool × List (List Nat × List Nat) := (true, [([], []), ([0], [0]), ([], []), ([2], [2]), ([1, 3], [1, 3]), ([], []), ([5, 3], [5]), ([6], [6]), ([4, 7], [4, 7]), ([0, 1, 2, 3, 4, 5, 6, 7, 8], []), ([9, 8, 6, 0, 1, 2, 3, 4, 5, 6, 7, 8], [8, 9])])
def spec_l20Job.B3 : List Nat := [0, 1, 0, 4, 15, 0, 44, 108, 255, 511, 1023]
theorem spec_l20Job.tab3 : rtab .any (opsOf Try.f88 3) = spec_l20Job.T3 := by kernel_rfl
theorem spec_l20Job.bits3 : waitsOk spec_l20Job.T3.2 spec_l20Job.B3 = true := by kernel_rfl
set_option maxHeartbeats 8000000 in
set_option maxRecDepth 100000 in
theorem spec_l20Job.calls (k : Nat) (g : Nat) (s0_0 : List Int) (s0_1 : Int) (r1 : Int) (r2 : Int) (r3 : Int) (r4 : Int) (r5 : Int) (r6 : Int) (r7 : Int) (r8 : Bool) (r9 : Int) (r10 : Int) (r11 : Int) (w0 w : World) (hI : IsS115 w0 w g s0_0 s0_1) (hB : Below w0.heap.size w0 w) (h : spec_l20Job.f k s0_0 s0_1 = some (r1, r2, r3, r4, r5, r6, r7, r8, r9, r10, r11)) :
  Calls Try.prog 88 #[.pointer (some ⟨g, 0, none⟩)] w fun e w' => e = .returned (.agg #[.int .i64 r1, .int .i64 r2, .int .i64 r3, .int .i64 r4, .int .i64 r5, .int .i64 r6, .int .i64 r7, .bool r8, .int .i64 r9, .int .i64 r10]) ∧ IsS115 w0 w' g s0_0 r11 ∧ Below w0.heap.size w0 w' ∧ KeepBut w w' g none := by
 have hu50 := Try.underlying50
 have HI0 := Aside0.mk hI
 have HG0 := Aside0.mk (show g < w.heap.size from hI.lt)
 have HK := Aside0.mk (KeepBut.refl w g none)
 have HL := Aside0.mk hB.size
 clear hI
 have HW0 := Aside0.mk hB.size
 have HB := Aside0.mk hB
 clear hB
 have H : ((spec_l20Rd_pick.f k s0_0 s0_1 3).bind fun bt108 => ((spec_l20Rd_pick.f k s0_0 bt108.2 2).bind fun bt110 => ((spec_l20Rd_pick.f k s0_0 bt110.2 3).bind fun bt112 => ((some (([1, 3, 5, 8, 10, 20] : List Int) : List Int)).bind fun y114 => ((spec_l20Rd_pick.f k s0_0 bt112.2 6).bind fun bt117 => (if 0 ≤ bt117.1 then (if bt117.1 < (y114.length : Int) then ((some (([0, 2, 5, 12, 20] : List Int) : List Int)).bind fun y120 => ((spec_l20Rd_pick.f k s0_0 bt117.2 5).bind fun bt123 => (if 0 ≤ bt123.1 then (if bt123.1 < (y120.length : Int) then ((spec_l20Rd_pick.f k s0_0 bt123.2 4).bind fun bt126 => ((spec_l20Rd_pick.f k s0_0 bt126.2 2).bind fun bt128 => ((some (([(-9), (-9), (-9), 0, 5] : List Int) : List Int)).bind fun y130 => ((spec_l20Rd_pick.f k s0_0 bt128.2 5).bind fun bt133 => (if 0 ≤ bt133.1 then (if bt133.1 < (y130.length : Int) then ((spec_l20Rd_pick.f k s0_0 bt133.2 4).bind fun bt136 => (if (wrap64 (1 + bt112.1)) = 2 then ((spec_l20Rd_pick.f k s0_0 bt136.2 4).bind fun bt139 => ((spec_l20Rd_pick.f k s0_0 bt139.2 4).bind fun bt141 => (if (wrap64 (1 + bt141.1)) = 0 then (none) else (if (wrap64 (Int.tdiv (wrap64 ((rd y114 bt117.1) + bt139.1)) (wrap64 (1 + bt141.1)))) < 1 then (spec_l20Job.j0 k true s0_0 bt141.2 (wrap64 (1 + bt108.1)) (wrap64 (1 + bt110.1)) (wrap64 (1 + bt112.1)) (rd y114 bt117.1) (wrap64 (Int.tdiv (wrap64 ((rd y114 bt117.1) + bt139.1)) (wrap64 (1 + bt141.1)))) (rd y120 bt123.1) (wrap64 (1 + bt126.1)) (bt128.1 == 0) (rd y130 bt133.1) (wrap64 (1 + bt136.1))) else (if (wrap64 (4 * (wrap64 (Int.tdiv (wrap64 ((rd y114 bt117.1) + bt139.1)) (wrap64 (1 + bt141.1)))))) < (rd y114 bt117.1) then (spec_l20Job.j0 k true s0_0 bt141.2 (wrap64 (1 + bt108.1)) (wrap64 (1 + bt110.1)) (wrap64 (1 + bt112.1)) (rd y114 bt117.1) (wrap64 (Int.tdiv (wrap64 ((rd y114 bt117.1) + bt139.1)) (wrap64 (1 + bt141.1)))) (rd y120 bt123.1) (wrap64 (1 + bt126.1)) (bt128.1 == 0) (rd y130 bt133.1) (wrap64 (1 + bt136.1))) else (spec_l20Job.j0 k (decide ((wrap64 (Int.tdiv (wrap64 ((rd y114 bt117.1) + bt139.1)) (wrap64 (1 + bt141.1)))) > (rd y114 bt117.1))) s0_0 bt141.2 (wrap64 (1 + bt108.1)) (wrap64 (1 + bt110.1)) (wrap64 (1 + bt112.1)) (rd y114 bt117.1) (wrap64 (Int.tdiv (wrap64 ((rd y114 bt117.1) + bt139.1)) (wrap64 (1 + bt141.1)))) (rd y120 bt123.1) (wrap64 (1 + bt126.1)) (bt128.1 == 0) (rd y130 bt133.1) (wrap64 (1 + bt136.1)))))))) else (spec_l20Job.j2 k s0_0 bt136.2 (wrap64 (1 + bt108.1)) (wrap64 (1 + bt110.1)) (wrap64 (1 + bt112.1)) (rd y114 bt117.1) 0 (rd y120 bt123.1) (wrap64 (1 + bt126.1)) (bt128.1 == 0) (rd y130 bt133.1) (wrap64 (1 + bt136.1))))) else (none)) else (none)))))) else (none)) else (none)))) else (none)) else (none))))))) = some (r1, r2, r3, r4, r5, r6, r7, r8, r9, r10, r11) := h
 clear h
 replace H := Option.bind_eq_some_iff.mp H
 obtain ⟨⟨t108, t109⟩, A20, H⟩ := H
 replace H : ((spec_l20Rd_pick.f k s0_0 t109 2).bind fun bt110 => ((spec_l20Rd_pick.f k s0_0 bt110.2 3).bind fun bt112 => ((some (([1, 3, 5, 8, 10, 20] : List Int) : List Int)).bind fun y114 => ((spec_l20Rd_pick.f k s0_0 bt112.2 6).bind fun bt117 => (if 0 ≤ bt117.1 then (if bt117.1 < (y114.length : Int) then ((some (([0, 2, 5, 12, 20] : List Int) : List Int)).bind fun y120 => ((spec_l20Rd_pick.f k s0_0 bt117.2 5).bind fun bt123 => (if 0 ≤ bt123.1 then (if bt123.1 < (y120.length : Int) then ((spec_l20Rd_pick.f k s0_0 bt123.2 4).bind fun bt126 => ((spec_l20Rd_pick.f k s0_0 bt126.2 2).bind fun bt128 => ((some (([(-9), (-9), (-9), 0, 5] : List Int) : List Int)).bind fun y130 => ((spec_l20Rd_pick.f k s0_0 bt128.2 5).bind fun bt133 => (if 0 ≤ bt133.1 then (if bt133.1 < (y130.length : Int) then ((spec_l20Rd_pick.f k s0_0 bt133.2 4).bind fun bt136 => (if (wrap64 (1 + bt112.1)) = 2 then ((spec_l20Rd_pick.f k s0_0 bt136.2 4).bind fun bt139 => ((spec_l20Rd_pick.f k s0_0 bt139.2 4).bind fun bt141 => (if (wrap64 (1 + bt141.1)) = 0 then (none) else (if (wrap64 (Int.tdiv (wrap64 ((rd y114 bt117.1) + bt139.1)) (wrap64 (1 + bt141.1)))) < 1 then (spec_l20Job.j0 k true s0_0 bt141.2 (wrap64 (1 + t108)) (wrap64 (1 + bt110.1)) (wrap64 (1 + bt112.1)) (rd y114 bt117.1) (wrap64 (Int.tdiv (wrap64 ((rd y114 bt117.1) + bt139.1)) (wrap64 (1 + bt141.1)))) (rd y120 bt123.1) (wrap64 (1 + bt126.1)) (bt128.1 == 0) (rd y130 bt133.1) (wrap64 (1 + bt136.1))) else (if (wrap64 (4 * (wrap64 (Int.tdiv (wrap64 ((rd y114 bt117.1) + bt139.1)) (wrap64 (1 + bt141.1)))))) < (rd y114 bt117.1) then (spec_l20Job.j0 k true s0_0 bt141.2 (wrap64 (1 + t108)) (wrap64 (1 + bt110.1)) (wrap64 (1 + bt112.1)) (rd y114 bt117.1) (wrap64 (Int.tdiv (wrap64 ((rd y114 bt117.1) + bt139.1)) (wrap64 (1 + bt141.1)))) (rd y120 bt123.1) (wrap64 (1 + bt126.1)) (bt128.1 == 0) (rd y130 bt133.1) (wrap64 (1 + bt136.1))) else (spec_l20Job.j0 k (decide ((wrap64 (Int.tdiv (wrap64 ((rd y114 bt117.1) + bt139.1)) (wrap64 (1 + bt141.1)))) > (rd y114 bt117.1))) s0_0 bt141.2 (wrap64 (1 + t108)) (wrap64 (1 + bt110.1)) (wrap64 (1 + bt112.1)) (rd y114 bt117.1) (wrap64 (Int.tdiv (wrap64 ((rd y114 bt117.1) + bt139.1)) (wrap64 (1 + bt141.1)))) (rd y120 bt123.1) (wrap64 (1 + bt126.1)) (bt128.1 == 0) (rd y130 bt133.1) (wrap64 (1 + bt136.1)))))))) else (spec_l20Job.j2 k s0_0 bt136.2 (wrap64 (1 + t108)) (wrap64 (1 + bt110.1)) (wrap64 (1 + bt112.1)) (rd y114 bt117.1) 0 (rd y120 bt123.1) (wrap64 (1 + bt126.1)) (bt128.1 == 0) (rd y130 bt133.1) (wrap64 (1 + bt136.1))))) else (none)) else (none)))))) else (none)) else (none)))) else (none)) else (none)))))) = some (r1, r2, r3, r4, r5, r6, r7, r8, r9, r10, r11) := H
 have A2 := Aside0.mk A20
 clear A20
 replace H := Option.bind_eq_some_iff.mp H
 obtain ⟨⟨t110, t111⟩, A30, H⟩ := H
 replace H : ((spec_l20Rd_pick.f k s0_0 t111 3).bind fun bt112 => ((some (([1, 3, 5, 8, 10, 20] : List Int) : List Int)).bind fun y114 => ((spec_l20Rd_pick.f k s0_0 bt112.2 6).bind fun bt117 => (if 0 ≤ bt117.1 then (if bt117.1 < (y114.length : Int) then ((some (([0, 2, 5, 12, 20] : List Int) : List Int)).bind fun y120 => ((spec_l20Rd_pick.f k s0_0 bt117.2 5).bind fun bt123 => (if 0 ≤ bt123.1 then (if bt123.1 < (y120.length : Int) then ((spec_l20Rd_pick.f k s0_0 bt123.2 4).bind fun bt126 => ((spec_l20Rd_pick.f k s0_0 bt126.2 2).bind fun bt128 => ((some (([(-9), (-9), (-9), 0, 5] : List Int) : List Int)).bind fun y130 => ((spec_l20Rd_pick.f k s0_0 bt128.2 5).bind fun bt133 => (if 0 ≤ bt133.1 then (if bt133.1 < (y130.length : Int) then ((spec_l20Rd_pick.f k s0_0 bt133.2 4).bind fun bt136 => (if (wrap64 (1 + bt112.1)) = 2 then ((spec_l20Rd_pick.f k s0_0 bt136.2 4).bind fun bt139 => ((spec_l20Rd_pick.f k s0_0 bt139.2 4).bind fun bt141 => (if (wrap64 (1 + bt141.1)) = 0 then (none) else (if (wrap64 (Int.tdiv (wrap64 ((rd y114 bt117.1) + bt139.1)) (wrap64 (1 + bt141.1)))) < 1 then (spec_l20Job.j0 k true s0_0 bt141.2 (wrap64 (1 + t108)) (wrap64 (1 + t110)) (wrap64 (1 + bt112.1)) (rd y114 bt117.1) (wrap64 (Int.tdiv (wrap64 ((rd y114 bt117.1) + bt139.1)) (wrap64 (1 + bt141.1)))) (rd y120 bt123.1) (wrap64 (1 + bt126.1)) (bt128.1 == 0) (rd y130 bt133.1) (wrap64 (1 + bt136.1))) else (if (wrap64 (4 * (wrap64 (Int.tdiv (wrap64 ((rd y114 bt117.1) + bt139.1)) (wrap64 (1 + bt141.1)))))) < (rd y114 bt117.1) then (spec_l20Job.j0 k true s0_0 bt141.2 (wrap64 (1 + t108)) (wrap64 (1 + t110)) (wrap64 (1 + bt112.1)) (rd y114 bt117.1) (wrap64 (Int.tdiv (wrap64 ((rd y114 bt117.1) + bt139.1)) (wrap64 (1 + bt141.1)))) (rd y120 bt123.1) (wrap64 (1 + bt126.1)) (bt128.1 == 0) (rd y130 bt133.1) (wrap64 (1 + bt136.1))) else (spec_l20Job.j0 k (decide ((wrap64 (Int.tdiv (wrap64 ((rd y114 bt117.1) + bt139.1)) (wrap64 (1 + bt141.1)))) > (rd y114 bt117.1))) s0_0 bt141.2 (wrap64 (1 + t108)) (wrap64 (1 + t110)) (wrap64 (1 + bt112.1)) (rd y114 bt117.1) (wrap64 (Int.tdiv (wrap64 ((rd y114 bt117.1) + bt139.1)) (wrap64 (1 + bt141.1)))) (rd y120 bt123.1) (wrap64 (1 + bt126.1)) (bt128.1 == 0) (rd y130 bt133.1) (wrap64 (1 + bt136.1)))))))) else (spec_l20Job.j2 k s0_0 bt136.2 (wrap64 (1 + t108)) (wrap64 (1 + t110)) (wrap64 (1 + bt112.1)) (rd y114 bt117.1) 0 (rd y120 bt123.1) (wrap64 (1 + bt126.1)) (bt128.1 == 0) (rd y130 bt133.1) (wrap64 (1 + bt136.1))))) else (none)) else (none)))))) else (none)) else (none)))) else (none)) else (none))))) = some (r1, r2, r3, r4, r5, r6, r7, r8, r9, r10, r11) := H
 have A3 := Aside0.mk A30
 clear A30
 replace H := Option.bind_eq_some_iff.mp H
 obtain ⟨⟨t112, t113⟩, A40, H⟩ := H
 replace H : ((some (([1, 3, 5, 8, 10, 20] : List Int) : List Int)).bind fun y114 => ((spec_l20Rd_pick.f k s0_0 t113 6).bind fun bt117 => (if 0 ≤ bt117.1 then (if bt117.1 < (y114.length : Int) then ((some (([0, 2, 5, 12, 20] : List Int) : List Int)).bind fun y120 => ((spec_l20Rd_pick.f k s0_0 bt117.2 5).bind fun bt123 => (if 0 ≤ bt123.1 then (if bt123.1 < (y120.length : Int) then ((spec_l20Rd_pick.f k s0_0 bt123.2 4).bind fun bt126 => ((spec_l20Rd_pick.f k s0_0 bt126.2 2).bind fun bt128 => ((some (([(-9), (-9), (-9), 0, 5] : List Int) : List Int)).bind fun y130 => ((spec_l20Rd_pick.f k s0_0 bt128.2 5).bind fun bt133 => (if 0 ≤ bt133.1 then (if bt133.1 < (y130.length : Int) then ((spec_l20Rd_pick.f k s0_0 bt133.2 4).bind fun bt136 => (if (wrap64 (1 + t112)) = 2 then ((spec_l20Rd_pick.f k s0_0 bt136.2 4).bind fun bt139 => ((spec_l20Rd_pick.f k s0_0 bt139.2 4).bind fun bt141 => (if (wrap64 (1 + bt141.1)) = 0 then (none) else (if (wrap64 (Int.tdiv (wrap64 ((rd y114 bt117.1) + bt139.1)) (wrap64 (1 + bt141.1)))) < 1 then (spec_l20Job.j0 k true s0_0 bt141.2 (wrap64 (1 + t108)) (wrap64 (1 + t110)) (wrap64 (1 + t112)) (rd y114 bt117.1) (wrap64 (Int.tdiv (wrap64 ((rd y114 bt117.1) + bt139.1)) (wrap64 (1 + bt141.1)))) (rd y120 bt123.1) (wrap64 (1 + bt126.1)) (bt128.1 == 0) (rd y130 bt133.1) (wrap64 (1 + bt136.1))) else (if (wrap64 (4 * (wrap64 (Int.tdiv (wrap64 ((rd y114 bt117.1) + bt139.1)) (wrap64 (1 + bt141.1)))))) < (rd y114 bt117.1) then (spec_l20Job.j0 k true s0_0 bt141.2 (wrap64 (1 + t108)) (wrap64 (1 + t110)) (wrap64 (1 + t112)) (rd y114 bt117.1) (wrap64 (Int.tdiv (wrap64 ((rd y114 bt117.1) + bt139.1)) (wrap64 (1 + bt141.1)))) (rd y120 bt123.1) (wrap64 (1 + bt126.1)) (bt128.1 == 0) (rd y130 bt133.1) (wrap64 (1 + bt136.1))) else (spec_l20Job.j0 k (decide ((wrap64 (Int.tdiv (wrap64 ((rd y114 bt117.1) + bt139.1)) (wrap64 (1 + bt141.1)))) > (rd y114 bt117.1))) s0_0 bt141.2 (wrap64 (1 + t108)) (wrap64 (1 + t110)) (wrap64 (1 + t112)) (rd y114 bt117.1) (wrap64 (Int.tdiv (wrap64 ((rd y114 bt117.1) + bt139.1)) (wrap64 (1 + bt141.1)))) (rd y120 bt123.1) (wrap64 (1 + bt126.1)) (bt128.1 == 0) (rd y130 bt133.1) (wrap64 (1 + bt136.1)))))))) else (spec_l20Job.j2 k s0_0 bt136.2 (wrap64 (1 + t108)) (wrap64 (1 + t110)) (wrap64 (1 + t112)) (rd y114 bt117.1) 0 (rd y120 bt123.1) (wrap64 (1 + bt126.1)) (bt128.1 == 0) (rd y130 bt133.1) (wrap64 (1 + bt136.1))))) else (none)) else (none)))))) else (none)) else (none)))) else (none)) else (none)))) = some (r1, r2, r3, r4, r5, r6, r7, r8, r9, r10, r11) := H
 have A4 := Aside0.mk A40
 clear A40
 obtain ⟨y114, hy114⟩ : ∃ y_ : List Int, y_ = (([1, 3, 5, 8, 10, 20] : List Int)) := ⟨_, rfl⟩
 replace H : ((spec_l20Rd_pick.f k s0_0 t113 6).bind fun bt117 => (if 0 ≤ bt117.1 then (if bt117.1 < (y114.length : Int) then ((some (([0, 2, 5, 12, 20] : List Int) : List Int)).bind fun y120 => ((spec_l20Rd_pick.f k s0_0 bt117.2 5).bind fun bt123 => (if 0 ≤ bt123.1 then (if bt123.1 < (y120.length : Int) then ((spec_l20Rd_pick.f k s0_0 bt123.2 4).bind fun bt126 => ((spec_l20Rd_pick.f k s0_0 bt126.2 2).bind fun bt128 => ((some (([(-9), (-9), (-9), 0, 5] : List Int) : List Int)).bind fun y130 => ((spec_l20Rd_pick.f k s0_0 bt128.2 5).bind fun bt133 => (if 0 ≤ bt133.1 then (if bt133.1 < (y130.length : Int) then ((spec_l20Rd_pick.f k s0_0 bt133.2 4).bind fun bt136 => (if (wrap64 (1 + t112)) = 2 then ((spec_l20Rd_pick.f k s0_0 bt136.2 4).bind fun bt139 => ((spec_l20Rd_pick.f k s0_0 bt139.2 4).bind fun bt141 => (if (wrap64 (1 + bt141.1)) = 0 then (none) else (if (wrap64 (Int.tdiv (wrap64 ((rd y114 bt117.1) + bt139.1)) (wrap64 (1 + bt141.1)))) < 1 then (spec_l20Job.j0 k true s0_0 bt141.2 (wrap64 (1 + t108)) (wrap64 (1 + t110)) (wrap64 (1 + t112)) (rd y114 bt117.1) (wrap64 (Int.tdiv (wrap64 ((rd y114 bt117.1) + bt139.1)) (wrap64 (1 + bt141.1)))) (rd y120 bt123.1) (wrap64 (1 + bt126.1)) (bt128.1 == 0) (rd y130 bt133.1) (wrap64 (1 + bt136.1))) else (if (wrap64 (4 * (wrap64 (Int.tdiv (wrap64 ((rd y114 bt117.1) + bt139.1)) (wrap64 (1 + bt141.1)))))) < (rd y114 bt117.1) then (spec_l20Job.j0 k true s0_0 bt141.2 (wrap64 (1 + t108)) (wrap64 (1 + t110)) (wrap64 (1 + t112)) (rd y114 bt117.1) (wrap64 (Int.tdiv (wrap64 ((rd y114 bt117.1) + bt139.1)) (wrap64 (1 + bt141.1)))) (rd y120 bt123.1) (wrap64 (1 + bt126.1)) (bt128.1 == 0) (rd y130 bt133.1) (wrap64 (1 + bt136.1))) else (spec_l20Job.j0 k (decide ((wrap64 (Int.tdiv (wrap64 ((rd y114 bt117.1) + bt139.1)) (wrap64 (1 + bt141.1)))) > (rd y114 bt117.1))) s0_0 bt141.2 (wrap64 (1 + t108)) (wrap64 (1 + t110)) (wrap64 (1 + t112)) (rd y114 bt117.1) (wrap64 (Int.tdiv (wrap64 ((rd y114 bt117.1) + bt139.1)) (wrap64 (1 + bt141.1)))) (rd y120 bt123.1) (wrap64 (1 + bt126.1)) (bt128.1 == 0) (rd y130 bt133.1) (wrap64 (1 + bt136.1)))))))) else (spec_l20Job.j2 k s0_0 bt136.2 (wrap64 (1 + t108)) (wrap64 (1 + t110)) (wrap64 (1 + t112)) (rd y114 bt117.1) 0 (rd y120 bt123.1) (wrap64 (1 + bt126.1)) (bt128.1 == 0) (rd y130 bt133.1) (wrap64 (1 + bt136.1))))) else (none)) else (none)))))) else (none)) else (none)))) else (none)) else (none))) = some (r1, r2, r3, r4, r5, r6, r7, r8, r9, r10, r11) := by first | (rw [hy114]; with_reducible exact H) | (have H2_ := (Option.bind_some _ _).symm.trans H; rw [hy114]; with_reducible exact H2_) | (have H2_ := (Option.bind_some _ _).symm.trans H; with_reducible exact H2_) | with_reducible exact H | (rw [hy114]; exact H) | exact H
 have Ny114 := Aside0.mk hy114
 clear hy114
 replace H := Option.bind_eq_some_iff.mp H
 obtain ⟨⟨t117, t118⟩, A50, H⟩ := H
 replace H : (if 0 ≤ t117 then (if t117 < (y114.length : Int) then ((some (([0, 2, 5, 12, 20] : List Int) : List Int)).bind fun y120 => ((spec_l20Rd_pick.f k s0_0 t118 5).bind fun bt123 => (if 0 ≤ bt123.1 then (if bt123.1 < (y120.length : Int) then ((spec_l20Rd_pick.f k s0_0 bt123.2 4).bind fun bt126 => ((spec_l20Rd_pick.f k s0_0 bt126.2 2).bind fun bt128 => ((some (([(-9), (-9), (-9), 0, 5] : List Int) : List Int)).bind fun y130 => ((spec_l20Rd_pick.f k s0_0 bt128.2 5).bind fun bt133 => (if 0 ≤ bt133.1 then (if bt133.1 < (y130.length : Int) then ((spec_l20Rd_pick.f k s0_0 bt133.2 4).bind fun bt136 => (if (wrap64 (1 + t112)) = 2 then ((spec_l20Rd_pick.f k s0_0 bt136.2 4).bind fun bt139 => ((spec_l20Rd_pick.f k s0_0 bt139.2 4).bind fun bt141 => (if (wrap64 (1 + bt141.1)) = 0 then (none) else (if (wrap64 (Int.tdiv (wrap64 ((rd y114 t117) + bt139.1)) (wrap64 (1 + bt141.1)))) < 1 then (spec_l20Job.j0 k true s0_0 bt141.2 (wrap64 (1 + t108)) (wrap64 (1 + t110)) (wrap64 (1 + t112)) (rd y114 t117) (wrap64 (Int.tdiv (wrap64 ((rd y114 t117) + bt139.1)) (wrap64 (1 + bt141.1)))) (rd y120 bt123.1) (wrap64 (1 + bt126.1)) (bt128.1 == 0) (rd y130 bt133.1) (wrap64 (1 + bt136.1))) else (if (wrap64 (4 * (wrap64 (Int.tdiv (wrap64 ((rd y114 t117) + bt139.1)) (wrap64 (1 + bt141.1)))))) < (rd y114 t117) then (spec_l20Job.j0 k true s0_0 bt141.2 (wrap64 (1 + t108)) (wrap64 (1 + t110)) (wrap64 (1 + t112)) (rd y114 t117) (wrap64 (Int.tdiv (wrap64 ((rd y114 t117) + bt139.1)) (wrap64 (1 + bt141.1)))) (rd y120 bt123.1) (wrap64 (1 + bt126.1)) (bt128.1 == 0) (rd y130 bt133.1) (wrap64 (1 + bt136.1))) else (spec_l20Job.j0 k (decide ((wrap64 (Int.tdiv (wrap64 ((rd y114 t117) + bt139.1)) (wrap64 (1 + bt141.1)))) > (rd y114 t117))) s0_0 bt141.2 (wrap64 (1 + t108)) (wrap64 (1 + t110)) (wrap64 (1 + t112)) (rd y114 t117) (wrap64 (Int.tdiv (wrap64 ((rd y114 t117) + bt139.1)) (wrap64 (1 + bt141.1)))) (rd y120 bt123.1) (wrap64 (1 + bt126.1)) (bt128.1 == 0) (rd y130 bt133.1) (wrap64 (1 + bt136.1)))))))) else (spec_l20Job.j2 k s0_0 bt136.2 (wrap64 (1 + t108)) (wrap64 (1 + t110)) (wrap64 (1 + t112)) (rd y114 t117) 0 (rd y120 bt123.1) (wrap64 (1 + bt126.1)) (bt128.1 == 0) (rd y130 bt133.1) (wrap64 (1 + bt136.1))))) else (none)) else (none)))))) else (none)) else (none)))) else (none)) else (none)) = some (r1, r2, r3, r4, r5, r6, r7, r8, r9, r10, r11) := H
 have A5 := Aside0.mk A50
 clear A50
 by_cases c6 : 0 ≤ t117
 ·rw [if_pos c6] at H
  have c6b0 : decide (0 ≤ t117) = true := decide_eq_true c6
  clear c6
  by_cases c7 : t117 < (y114.length : Int)
  ·rw [if_pos c7] at H
   have c7b0 : decide (t117 < (y114.length : Int)) = true := decide_eq_true c7
   clear c7
   obtain ⟨y120, hy120⟩ : ∃ y_ : List Int, y_ = (([0, 2, 5, 12, 20] : List Int)) := ⟨_, rfl⟩
   replace H : ((spec_l20Rd_pick.f k s0_0 t118 5).bind fun bt123 => (if 0 ≤ bt123.1 then (if bt123.1 < (y120.length : Int) then ((spec_l20Rd_pick.f k s0_0 bt123.2 4).bind fun bt126 => ((spec_l20Rd_pick.f k s0_0 bt126.2 2).bind fun bt128 => ((some (([(-9), (-9), (-9), 0, 5] : List Int) : List Int)).bind fun y130 => ((spec_l20Rd_pick.f k s0_0 bt128.2 5).bind fun bt133 => (if 0 ≤ bt133.1 then (if bt133.1 < (y130.length : Int) then ((spec_l20Rd_pick.f k s0_0 bt133.2 4).bind fun bt136 => (if (wrap64 (1 + t112)) = 2 then ((spec_l20Rd_pick.f k s0_0 bt136.2 4).bind fun bt139 => ((spec_l20Rd_pick.f k s0_0 bt139.2 4).bind fun bt141 => (if (wrap64 (1 + bt141.1)) = 0 then (none) else (if (wrap64 (Int.tdiv (wrap64 ((rd y114 t117) + bt139.1)) (wrap64 (1 + bt141.1)))) < 1 then (spec_l20Job.j0 k true s0_0 bt141.2 (wrap64 (1 + t108)) (wrap64 (1 + t110)) (wrap64 (1 + t112)) (rd y114 t117) (wrap64 (Int.tdiv (wrap64 ((rd y114 t117) + bt139.1)) (wrap64 (1 + bt141.1)))) (rd y120 bt123.1) (wrap64 (1 + bt126.1)) (bt128.1 == 0) (rd y130 bt133.1) (wrap64 (1 + bt136.1))) else (if (wrap64 (4 * (wrap64 (Int.tdiv (wrap64 ((rd y114 t117) + bt139.1)) (wrap64 (1 + bt141.1)))))) < (rd y114 t117) then (spec_l20Job.j0 k true s0_0 bt141.2 (wrap64 (1 + t108)) (wrap64 (1 + t110)) (wrap64 (1 + t112)) (rd y114 t117) (wrap64 (Int.tdiv (wrap64 ((rd y114 t117) + bt139.1)) (wrap64 (1 + bt141.1)))) (rd y120 bt123.1) (wrap64 (1 + bt126.1)) (bt128.1 == 0) (rd y130 bt133.1) (wrap64 (1 + bt136.1))) else (spec_l20Job.j0 k (decide ((wrap64 (Int.tdiv (wrap64 ((rd y114 t117) + bt139.1)) (wrap64 (1 + bt141.1)))) > (rd y114 t117))) s0_0 bt141.2 (wrap64 (1 + t108)) (wrap64 (1 + t110)) (wrap64 (1 + t112)) (rd y114 t117) (wrap64 (Int.tdiv (wrap64 ((rd y114 t117) + bt139.1)) (wrap64 (1 + bt141.1)))) (rd y120 bt123.1) (wrap64 (1 + bt126.1)) (bt128.1 == 0) (rd y130 bt133.1) (wrap64 (1 + bt136.1)))))))) else (spec_l20Job.j2 k s0_0 bt136.2 (wrap64 (1 + t108)) (wrap64 (1 + t110)) (wrap64 (1 + t112)) (rd y114 t117) 0 (rd y120 bt123.1) (wrap64 (1 + bt126.1)) (bt128.1 == 0) (rd y130 bt133.1) (wrap64 (1 + bt136.1))))) else (none)) else (none)))))) else (none)) else (none))) = some (r1, r2, r3, r4, r5, r6, r7, r8, r9, r10, r11) := by first | (rw [hy120]; with_reducible exact H) | (have H2_ := (Option.bind_some _ _).symm.trans H; rw [hy120]; with_reducible exact H2_) | (have H2_ := (Option.bind_some _ _).symm.trans H; with_reducible exact H2_) | with_reducible exact H | (rw [hy120]; exact H) | exact H
   have Ny120 := Aside0.mk hy120
   clear hy120
   replace H := Option.bind_eq_some_iff.mp H
   obtain ⟨⟨t123, t124⟩, A80, H⟩ := H
   replace H : (if 0 ≤ t123 then (if t123 < (y120.length : Int) then ((spec_l20Rd_pick.f k s0_0 t124 4).bind fun bt126 => ((spec_l20Rd_pick.f k s0_0 bt126.2 2).bind fun bt128 => ((some (([(-9), (-9), (-9), 0, 5] : List Int) : List Int)).bind fun y130 => ((spec_l20Rd_pick.f k s0_0 bt128.2 5).bind fun bt133 => (if 0 ≤ bt133.1 then (if bt133.1 < (y130.length : Int) then ((spec_l20Rd_pick.f k s0_0 bt133.2 4).bind fun bt136 => (if (wrap64 (1 + t112)) = 2 then ((spec_l20Rd_pick.f k s0_0 bt136.2 4).bind fun bt139 => ((spec_l20Rd_pick.f k s0_0 bt139.2 4).bind fun bt141 => (if (wrap64 (1 + bt141.1)) = 0 then (none) else (if (wrap64 (Int.tdiv (wrap64 ((rd y114 t117) + bt139.1)) (wrap64 (1 + bt141.1)))) < 1 then (spec_l20Job.j0 k true s0_0 bt141.2 (wrap64 (1 + t108)) (wrap64 (1 + t110)) (wrap64 (1 + t112)) (rd y114 t117) (wrap64 (Int.tdiv (wrap64 ((rd y114 t117) + bt139.1)) (wrap64 (1 + bt141.1)))) (rd y120 t123) (wrap64 (1 + bt126.1)) (bt128.1 == 0) (rd y130 bt133.1) (wrap64 (1 + bt136.1))) else (if (wrap64 (4 * (wrap64 (Int.tdiv (wrap64 ((rd y114 t117) + bt139.1)) (wrap64 (1 + bt141.1)))))) < (rd y114 t117) then (spec_l20Job.j0 k true s0_0 bt141.2 (wrap64 (1 + t108)) (wrap64 (1 + t110)) (wrap64 (1 + t112)) (rd y114 t117) (wrap64 (Int.tdiv (wrap64 ((rd y114 t117) + bt139.1)) (wrap64 (1 + bt141.1)))) (rd y120 t123) (wrap64 (1 + bt126.1)) (bt128.1 == 0) (rd y130 bt133.1) (wrap64 (1 + bt136.1))) else (spec_l20Job.j0 k (decide ((wrap64 (Int.tdiv (wrap64 ((rd y114 t117) + bt139.1)) (wrap64 (1 + bt141.1)))) > (rd y114 t117))) s0_0 bt141.2 (wrap64 (1 + t108)) (wrap64 (1 + t110)) (wrap64 (1 + t112)) (rd y114 t117) (wrap64 (Int.tdiv (wrap64 ((rd y114 t117) + bt139.1)) (wrap64 (1 + bt141.1)))) (rd y120 t123) (wrap64 (1 + bt126.1)) (bt128.1 == 0) (rd y130 bt133.1) (wrap64 (1 + bt136.1)))))))) else (spec_l20Job.j2 k s0_0 bt136.2 (wrap64 (1 + t108)) (wrap64 (1 + t110)) (wrap64 (1 + t112)) (rd y114 t117) 0 (rd y120 t123) (wrap64 (1 + bt126.1)) (bt128.1 == 0) (rd y130 bt133.1) (wrap64 (1 + bt136.1))))) else (none)) else (none)))))) else (none)) else (none)) = some (r1, r2, r3, r4, r5, r6, r7, r8, r9, r10, r11) := H
   have A8 := Aside0.mk A80
   clear A80
   by_cases c9 : 0 ≤ t123
   ·rw [if_pos c9] at H
    have c9b0 : decide (0 ≤ t123) = true := decide_eq_true c9
    clear c9
    by_cases c10 : t123 < (y120.length : Int)
    ·rw [if_pos c10] at H
     have c10b0 : decide (t123 < (y120.length : Int)) = true := decide_eq_true c10
     clear c10
     replace H := Option.bind_eq_some_iff.mp H
     obtain ⟨⟨t126, t127⟩, A110, H⟩ := H
     replace H : ((spec_l20Rd_pick.f k s0_0 t127 2).bind fun bt128 => ((some (([(-9), (-9), (-9), 0, 5] : List Int) : List Int)).bind fun y130 => ((spec_l20Rd_pick.f k s0_0 bt128.2 5).bind fun bt133 => (if 0 ≤ bt133.1 then (if bt133.1 < (y130.length : Int) then ((spec_l20Rd_pick.f k s0_0 bt133.2 4).bind fun bt136 => (if (wrap64 (1 + t112)) = 2 then ((spec_l20Rd_pick.f k s0_0 bt136.2 4).bind fun bt139 => ((spec_l20Rd_pick.f k s0_0 bt139.2 4).bind fun bt141 => (if (wrap64 (1 + bt141.1)) = 0 then (none) else (if (wrap64 (Int.tdiv (wrap64 ((rd y114 t117) + bt139.1)) (wrap64 (1 + bt141.1)))) < 1 then (spec_l20Job.j0 k true s0_0 bt141.2 (wrap64 (1 + t108)) (wrap64 (1 + t110)) (wrap64 (1 + t112)) (rd y114 t117) (wrap64 (Int.tdiv (wrap64 ((rd y114 t117) + bt139.1)) (wrap64 (1 + bt141.1)))) (rd y120 t123) (wrap64 (1 + t126)) (bt128.1 == 0) (rd y130 bt133.1) (wrap64 (1 + bt136.1))) else (if (wrap64 (4 * (wrap64 (Int.tdiv (wrap64 ((rd y114 t117) + bt139.1)) (wrap64 (1 + bt141.1)))))) < (rd y114 t117) then (spec_l20Job.j0 k true s0_0 bt141.2 (wrap64 (1 + t108)) (wrap64 (1 + t110)) (wrap64 (1 + t112)) (rd y114 t117) (wrap64 (Int.tdiv (wrap64 ((rd y114 t117) + bt139.1)) (wrap64 (1 + bt141.1)))) (rd y120 t123) (wrap64 (1 + t126)) (bt128.1 == 0) (rd y130 bt133.1) (wrap64 (1 + bt136.1))) else (spec_l20Job.j0 k (decide ((wrap64 (Int.tdiv (wrap64 ((rd y114 t117) + bt139.1)) (wrap64 (1 + bt141.1)))) > (rd y114 t117))) s0_0 bt141.2 (wrap64 (1 + t108)) (wrap64 (1 + t110)) (wrap64 (1 + t112)) (rd y114 t117) (wrap64 (Int.tdiv (wrap64 ((rd y114 t117) + bt139.1)) (wrap64 (1 + bt141.1)))) (rd y120 t123) (wrap64 (1 + t126)) (bt128.1 == 0) (rd y130 bt133.1) (wrap64 (1 + bt136.1)))))))) else (spec_l20Job.j2 k s0_0 bt136.2 (wrap64 (1 + t108)) (wrap64 (1 + t110)) (wrap64 (1 + t112)) (rd y114 t117) 0 (rd y120 t123) (wrap64 (1 + t126)) (bt128.1 == 0) (rd y130 bt133.1) (wrap64 (1 + bt136.1))))) else (none)) else (none))))) = some (r1, r2, r3, r4, r5, r6, r7, r8, r9, r10, r11) := H
     have A11 := Aside0.mk A110
     clear A110
     replace H := Option.bind_eq_some_iff.mp H
     obtain ⟨⟨t128, t129⟩, A120, H⟩ := H
     replace H : ((some (([(-9), (-9), (-9), 0, 5] : List Int) : List Int)).bind fun y130 => ((spec_l20Rd_pick.f k s0_0 t129 5).bind fun bt133 => (if 0 ≤ bt133.1 then (if bt133.1 < (y130.length : Int) then ((spec_l20Rd_pick.f k s0_0 bt133.2 4).bind fun bt136 => (if (wrap64 (1 + t112)) = 2 then ((spec_l20Rd_pick.f k s0_0 bt136.2 4).bind fun bt139 => ((spec_l20Rd_pick.f k s0_0 bt139.2 4).bind fun bt141 => (if (wrap64 (1 + bt141.1)) = 0 then (none) else (if (wrap64 (Int.tdiv (wrap64 ((rd y114 t117) + bt139.1)) (wrap64 (1 + bt141.1)))) < 1 then (spec_l20Job.j0 k true s0_0 bt141.2 (wrap64 (1 + t108)) (wrap64 (1 + t110)) (wrap64 (1 + t112)) (rd y114 t117) (wrap64 (Int.tdiv (wrap64 ((rd y114 t117) + bt139.1)) (wrap64 (1 + bt141.1)))) (rd y120 t123) (wrap64 (1 + t126)) (t128 == 0) (rd y130 bt133.1) (wrap64 (1 + bt136.1))) else (if (wrap64 (4 * (wrap64 (Int.tdiv (wrap64 ((rd y114 t117) + bt139.1)) (wrap64 (1 + bt141.1)))))) < (rd y114 t117) then (spec_l20Job.j0 k true s0_0 bt141.2 (wrap64 (1 + t108)) (wrap64 (1 + t110)) (wrap64 (1 + t112)) (rd y114 t117) (wrap64 (Int.tdiv (wrap64 ((rd y114 t117) + bt139.1)) (wrap64 (1 + bt141.1)))) (rd y120 t123) (wrap64 (1 + t126)) (t128 == 0) (rd y130 bt133.1) (wrap64 (1 + bt136.1))) else (spec_l20Job.j0 k (decide ((wrap64 (Int.tdiv (wrap64 ((rd y114 t117) + bt139.1)) (wrap64 (1 + bt141.1)))) > (rd y114 t117))) s0_0 bt141.2 (wrap64 (1 + t108)) (wrap64 (1 + t110)) (wrap64 (1 + t112)) (rd y114 t117) (wrap64 (Int.tdiv (wrap64 ((rd y114 t117) + bt139.1)) (wrap64 (1 + bt141.1)))) (rd y120 t123) (wrap64 (1 + t126)) (t128 == 0) (rd y130 bt133.1) (wrap64 (1 + bt136.1)))))))) else (spec_l20Job.j2 k s0_0 bt136.2 (wrap64 (1 + t108)) (wrap64 (1 + t110)) (wrap64 (1 + t112)) (rd y114 t117) 0 (rd y120 t123) (wrap64 (1 + t126)) (t128 == 0) (rd y130 bt133.1) (wrap64 (1 + bt136.1))))) else (none)) else (none)))) = some (r1, r2, r3, r4, r5, r6, r7, r8, r9, r10, r11) := H
     have A12 := Aside0.mk A120
     clear A120
     obtain ⟨y130, hy130⟩ : ∃ y_ : List Int, y_ = (([(-9), (-9), (-9), 0, 5] : List Int)) := ⟨_, rfl⟩
     replace H : ((spec_l20Rd_pick.f k s0_0 t129 5).bind fun bt133 => (if 0 ≤ bt133.1 then (if bt133.1 < (y130.length : Int) then ((spec_l20Rd_pick.f k s0_0 bt133.2 4).bind fun bt136 => (if (wrap64 (1 + t112)) = 2 then ((spec_l20Rd_pick.f k s0_0 bt136.2 4).bind fun bt139 => ((spec_l20Rd_pick.f k s0_0 bt139.2 4).bind fun bt141 => (if (wrap64 (1 + bt141.1)) = 0 then (none) else (if (wrap64 (Int.tdiv (wrap64 ((rd y114 t117) + bt139.1)) (wrap64 (1 + bt141.1)))) < 1 then (spec_l20Job.j0 k true s0_0 bt141.2 (wrap64 (1 + t108)) (wrap64 (1 + t110)) (wrap64 (1 + t112)) (rd y114 t117) (wrap64 (Int.tdiv (wrap64 ((rd y114 t117) + bt139.1)) (wrap64 (1 + bt141.1)))) (rd y120 t123) (wrap64 (1 + t126)) (t128 == 0) (rd y130 bt133.1) (wrap64 (1 + bt136.1))) else (if (wrap64 (4 * (wrap64 (Int.tdiv (wrap64 ((rd y114 t117) + bt139.1)) (wrap64 (1 + bt141.1)))))) < (rd y114 t117) then (spec_l20Job.j0 k true s0_0 bt141.2 (wrap64 (1 + t108)) (wrap64 (1 + t110)) (wrap64 (1 + t112)) (rd y114 t117) (wrap64 (Int.tdiv (wrap64 ((rd y114 t117) + bt139.1)) (wrap64 (1 + bt141.1)))) (rd y120 t123) (wrap64 (1 + t126)) (t128 == 0) (rd y130 bt133.1) (wrap64 (1 + bt136.1))) else (spec_l20Job.j0 k (decide ((wrap64 (Int.tdiv (wrap64 ((rd y114 t117) + bt139.1)) (wrap64 (1 + bt141.1)))) > (rd y114 t117))) s0_0 bt141.2 (wrap64 (1 + t108)) (wrap64 (1 + t110)) (wrap64 (1 + t112)) (rd y114 t117) (wrap64 (Int.tdiv (wrap64 ((rd y114 t117) + bt139.1)) (wrap64 (1 + bt141.1)))) (rd y120 t123) (wrap64 (1 + t126)) (t128 == 0) (rd y130 bt133.1) (wrap64 (1 + bt136.1)))))))) else (spec_l20Job.j2 k s0_0 bt136.2 (wrap64 (1 + t108)) (wrap64 (1 + t110)) (wrap64 (1 + t112)) (rd y114 t117) 0 (rd y120 t123) (wrap64 (1 + t126)) (t128 == 0) (rd y130 bt133.1) (wrap64 (1 + bt136.1))))) else (none)) else (none))) = some (r1, r2, r3, r4, r5, r6, r7, r8, r9, r10, r11) := by first | (rw [hy130]; with_reducible exact H) | (have H2_ := (Option.bind_some _ _).symm.trans H; rw [hy130]; with_reducible exact H2_) | (have H2_ := (Option.bind_some _ _).symm.trans H; with_reducible exact H2_) | with_reducible exact H | (rw [hy130]; exact H) | exact H
     have Ny130 := Aside0.mk hy130
     clear hy130
     replace H := Option.bind_eq_some_iff.mp H
     obtain ⟨⟨t133, t134⟩, A130, H⟩ := H
     replace H : (if 0 ≤ t133 then (if t133 < (y130.length : Int) then ((spec_l20Rd_pick.f k s0_0 t134 4).bind fun bt136 => (if (wrap64 (1 + t112)) = 2 then ((spec_l20Rd_pick.f k s0_0 bt136.2 4).bind fun bt139 => ((spec_l20Rd_pick.f k s0_0 bt139.2 4).bind fun bt141 => (if (wrap64 (1 + bt141.1)) = 0 then (none) else (if (wrap64 (Int.tdiv (wrap64 ((rd y114 t117) + bt139.1)) (wrap64 (1 + bt141.1)))) < 1 then (spec_l20Job.j0 k true s0_0 bt141.2 (wrap64 (1 + t108)) (wrap64 (1 + t110)) (wrap64 (1 + t112)) (rd y114 t117) (wrap64 (Int.tdiv (wrap64 ((rd y114 t117) + bt139.1)) (wrap64 (1 + bt141.1)))) (rd y120 t123) (wrap64 (1 + t126)) (t128 == 0) (rd y130 t133) (wrap64 (1 + bt136.1))) else (if (wrap64 (4 * (wrap64 (Int.tdiv (wrap64 ((rd y114 t117) + bt139.1)) (wrap64 (1 + bt141.1)))))) < (rd y114 t117) then (spec_l20Job.j0 k true s0_0 bt141.2 (wrap64 (1 + t108)) (wrap64 (1 + t110)) (wrap64 (1 + t112)) (rd y114 t117) (wrap64 (Int.tdiv (wrap64 ((rd y114 t117) + bt139.1)) (wrap64 (1 + bt141.1)))) (rd y120 t123) (wrap64 (1 + t126)) (t128 == 0) (rd y130 t133) (wrap64 (1 + bt136.1))) else (spec_l20Job.j0 k (decide ((wrap64 (Int.tdiv (wrap64 ((rd y114 t117) + bt139.1)) (wrap64 (1 + bt141.1)))) > (rd y114 t117))) s0_0 bt141.2 (wrap64 (1 + t108)) (wrap64 (1 + t110)) (wrap64 (1 + t112)) (rd y114 t117) (wrap64 (Int.tdiv (wrap64 ((rd y114 t117) + bt139.1)) (wrap64 (1 + bt141.1)))) (rd y120 t123) (wrap64 (1 + t126)) (t128 == 0) (rd y130 t133) (wrap64 (1 + bt136.1)))))))) else (spec_l20Job.j2 k s0_0 bt136.2 (wrap64 (1 + t108)) (wrap64 (1 + t110)) (wrap64 (1 + t112)) (rd y114 t117) 0 (rd y120 t123) (wrap64 (1 + t126)) (t128 == 0) (rd y130 t133) (wrap64 (1 + bt136.1))))) else (none)) else (none)) = some (r1, r2, r3, r4, r5, r6, r7, r8, r9, r10, r11) := H
     have A13 := Aside0.mk A130
     clear A130
     by_cases c14 : 0 ≤ t133
     ·rw [if_pos c14] at H
      have c14b0 : decide (0 ≤ t133) = true := decide_eq_true c14
      clear c14
      by_cases c15 : t133 < (y130.length : Int)
      ·rw [if_pos c15] at H
       have c15b0 : decide (t133 < (y130.length : Int)) = true := decide_eq_true c15
       clear c15
       replace H := Option.bind_eq_some_iff.mp H
       obtain ⟨⟨t136, t137⟩, A160, H⟩ := H
       replace H : (if (wrap64 (1 + t112)) = 2 then ((spec_l20Rd_pick.f k s0_0 t137 4).bind fun bt139 => ((spec_l20Rd_pick.f k s0_0 bt139.2 4).bind fun bt141 => (if (wrap64 (1 + bt141.1)) = 0 then (none) else (if (wrap64 (Int.tdiv (wrap64 ((rd y114 t117) + bt139.1)) (wrap64 (1 + bt141.1)))) < 1 then (spec_l20Job.j0 k true s0_0 bt141.2 (wrap64 (1 + t108)) (wrap64 (1 + t110)) (wrap64 (1 + t112)) (rd y114 t117) (wrap64 (Int.tdiv (wrap64 ((rd y114 t117) + bt139.1)) (wrap64 (1 + bt141.1)))) (rd y120 t123) (wrap64 (1 + t126)) (t128 == 0) (rd y130 t133) (wrap64 (1 + t136))) else (if (wrap64 (4 * (wrap64 (Int.tdiv (wrap64 ((rd y114 t117) + bt139.1)) (wrap64 (1 + bt141.1)))))) < (rd y114 t117) then (spec_l20Job.j0 k true s0_0 bt141.2 (wrap64 (1 + t108)) (wrap64 (1 + t110)) (wrap64 (1 + t112)) (rd y114 t117) (wrap64 (Int.tdiv (wrap64 ((rd y114 t117) + bt139.1)) (wrap64 (1 + bt141.1)))) (rd y120 t123) (wrap64 (1 + t126)) (t128 == 0) (rd y130 t133) (wrap64 (1 + t136))) else (spec_l20Job.j0 k (decide ((wrap64 (Int.tdiv (wrap64 ((rd y114 t117) + bt139.1)) (wrap64 (1 + bt141.1)))) > (rd y114 t117))) s0_0 bt141.2 (wrap64 (1 + t108)) (wrap64 (1 + t110)) (wrap64 (1 + t112)) (rd y114 t117) (wrap64 (Int.tdiv (wrap64 ((rd y114 t117) + bt139.1)) (wrap64 (1 + bt141.1)))) (rd y120 t123) (wrap64 (1 + t126)) (t128 == 0) (rd y130 t133) (wrap64 (1 + t136)))))))) else (spec_l20Job.j2 k s0_0 t137 (wrap64 (1 + t108)) (wrap64 (1 + t110)) (wrap64 (1 + t112)) (rd y114 t117) 0 (rd y120 t123) (wrap64 (1 + t126)) (t128 == 0) (rd y130 t133) (wrap64 (1 + t136)))) = some (r1, r2, r3, r4, r5, r6, r7, r8, r9, r10, r11) := H
       have A16 := Aside0.mk A160
       clear A160
       have HC17 := Aside0.mk H
       clear H
       go_enter Try.func88, Try.ntmps88
       try go_wp2_with (first | ((with_reducible refine gate_dst (N := 2) rfl ?_); refine box_event ?hg (N := 2) ?hd (cs := #[.int .i64 0, .int .i64 0, .int .i64 0, .int .i64 0, .int .i64 0, .int .i64 0, .int .i64 0, .bool false, .int .i64 0, .int .i64 0]) (t := 50) ?hr ?_; (case hd => rfl); (case hg => rfl); (case hr => first | (go_simp; done) | (go_simp; rfl)); intro gb107 hg w18 hbox hb; have n0_ := Aside0.mk (IsS115.below (by repeat (first | (with_reducible first | exact HI0.out | apply IsS115.alloc | apply IsS115.drewN | apply IsS115.drew | apply IsS115.set_1) | exact HI0.out)) hb); have n1_ := Aside0.mk (KeepBut.trans (by repeat (first | (with_reducible first | exact HK.out | apply KeepBut.set_ | apply keep_drewN | apply keep_drew | apply keep_alloc) | exact HK.out)) (KeepBut.of_below hb g none) (.inl rfl)); have n2_ := Aside0.mk (below_step (by repeat (first | (with_reducible first | exact HB.out | apply below_alloc | apply pw_below_drewN | apply below_drew1 | refine below_set ?_ (IsS115.ge HI0.out)) | exact HB.out)) hb); have n3_ := Aside0.mk (hbox); have n4_ := Aside0.mk ((by rw [hg]; exact (keep_size (w := w) (g := g) (row := none) (by repeat (first | (with_reducible first | exact HK.out | apply KeepBut.set_ | apply keep_drewN | apply keep_drew | apply keep_alloc) | exact HK.out))) : w.heap.size ≤ gb107)); have n5_ := Aside0.mk ((Nat.le_trans HW0.out (by rw [hg]; exact (keep_size (w := w) (g := g) (row := none) (by repeat (first | (with_reducible first | exact HK.out | apply KeepBut.set_ | apply keep_drewN | apply keep_drew | apply keep_alloc) | exact HK.out))) : w.heap.size ≤ gb107) : w0.heap.size ≤ gb107)); have n6_ := Aside0.mk ((by rw [hg]; exact Nat.ne_of_lt (Nat.lt_of_lt_of_le HG0.out (keep_size (w := w) (g := g) (row := none) (by repeat (first | (with_reducible first | exact HK.out | apply KeepBut.set_ | apply keep_drewN | apply keep_drew | apply keep_alloc) | exact HK.out)))) : g ≠ gb107)); have n7_ := Aside0.mk ((by rw [hg]; exact Nat.ne_of_gt (Nat.lt_of_lt_of_le HG0.out (keep_size (w := w) (g := g) (row := none) (by repeat (first | (with_reducible first | exact HK.out | apply KeepBut.set_ | apply keep_drewN | apply keep_drew | apply keep_alloc) | exact HK.out)))) : gb107 ≠ g)); clear HI0; clear HK; clear HB; have HI0 := n0_; have HK := n1_; have HB := n2_; have BK107 := n3_; have GW107 := n4_; have GE107 := n5_; have NB0_107 := n6_; have NB107_0 := n7_; clear n0_ n1_ n2_ n3_ n4_ n5_ n6_ n7_; clear hb hbox hg))
       have pi119 : (0 ≤ (t117 : Int)) = True := eq_true (of_decide_eq_true (by first | (with_reducible assumption) | assumption))
       have qi119 : (t117 < (y114.length : Int)) = True := eq_true (of_decide_eq_true (by first | (with_reducible assumption) | assumption))
       have pi125 : (0 ≤ (t123 : Int)) = True := eq_true (of_decide_eq_true (by first | (with_reducible assumption) | assumption))
       have qi125 : (t123 < (y120.length : Int)) = True := eq_true (of_decide_eq_true (by first | (with_reducible assumption) | assumption))
       have pi135 : (0 ≤ (t133 : Int)) = True := eq_true (of_decide_eq_true (by first | (with_reducible assumption) | assumption))
       have qi135 : (t133 < (y130.length : Int)) = True := eq_true (of_decide_eq_true (by first | (with_reducible assumption) | assumption))
       have n0_ := Aside0.mk (blk_drew BK107.out)
       have n1_ := Aside0.mk (IsS115.drew HI0.out)
       have n2_ := Aside0.mk (keep_drew HK.out)
       have n3_ := Aside0.mk (below_drew1 HB.out)
       clear BK107
       clear HI0
       clear HK
       clear HB
       have BK107 := n0_
       have HI0 := n1_
       have HK := n2_
       have HB := n3_
       clear n0_ n1_ n2_ n3_
       refine start_ (n := 36) (S := fun w' => True) (ds := []) #[false, false, false, false, false, false, false, false, false, false, false, false, false, false, false, false, false, false, false, false, false, false, false, false, false, false, false, false, false, false, false, false, false, false, false, false] (by kernel_rfl) rfl rfl trivial (fun hHeld => ?_); refine with_tabW spec_l20Job.tab1 spec_l20Job.bits1 (fun HT_ HW_ => ?_)
       generalize w18.drew = w19 at BK107 HI0 HK HB hHeld ⊢
       refine pure_ (i := 0) (N := some 4) (v := ?_) (a' := ?_) #[true, false, false, false, false, false, false, false, false, false, false, false, false, false, false, false, false, false, false, false, false, false, false, false, false, false, false, false, false, false, false, false, false, false, false, false] rfl rfl (any_of HT_.out (by kernel_rfl)) (fun _ _ _ h => h) (Or.inl ⟨by rfl, ?_⟩) ?_ ?_
       rotate_left
       ·intro w'
        go_simp
        with_reducible rfl
       rotate_left
       ·simp only [Act.put, List.setIfInBounds_toArray, List.set_cons_zero, List.set_cons_succ, i64_w, i32_w]
        rfl
       refine pure_ (i := 3) (N := some 7) (v := ?_) (a' := ?_) #[true, false, false, true, false, false, false, false, false, false, false, false, false, false, false, false, false, false, false, false, false, false, false, false, false, false, false, false, false, false, false, false, false, false, false, false] rfl rfl (any_of HT_.out (by kernel_rfl)) (fun _ _ _ h => h) (Or.inl ⟨by rfl, ?_⟩) ?_ ?_
       rotate_left
       ·intro w'
        go_simp
        with_reducible rfl
       rotate_left
       ·simp only [Act.put, List.setIfInBounds_toArray, List.set_cons_zero, List.set_cons_succ, i64_w, i32_w]
        rfl
       refine pure_ (i := 6) (N := some 10) (v := ?_) (a' := ?_) #[true, false, false, true, false, false, true, false, false, false, false, false, false, false, false, false, false, false, false, false, false, false, false, false, false, false, false, false, false, false, false, false, false, false, false, false] rfl rfl (any_of HT_.out (by kernel_rfl)) (fun _ _ _ h => h) (Or.inl ⟨by rfl, ?_⟩) ?_ ?_
       rotate_left
       ·intro w'
        go_simp
        with_reducible rfl
       rotate_left
       ·simp only [Act.put, List.setIfInBounds_toArray, List.set_cons_zero, List.set_cons_succ, i64_w, i32_w]
        rfl
       refine pure_ (i := 10) (N := some 14) (v := ?_) (a' := ?_) #[true, false, false, true, false, false, true, false, false, false, true, false, false, false, false, false, false, false, false, false, false, false, false, false, false, false, false, false, false, false, false, false, false, false, false, false] rfl rfl (any_of HT_.out (by kernel_rfl)) (fun _ _ _ h => h) (Or.inl ⟨by rfl, ?_⟩) ?_ ?_
       rotate_left
       ·intro w'
        go_simp
        with_reducible rfl
       rotate_left
       ·simp only [Act.put, List.setIfInBounds_toArray, List.set_cons_zero, List.set_cons_succ, i64_w, i32_w]
        rfl
       refine pure_ (i := 15) (N := some 19) (v := ?_) (a' := ?_) #[true, false, false, true, false, false, true, false, false, false, true, false, false, false, false, true, false, false, false, false, false, false, false, false, false, false, false, false, false, false, false, false, false, false, false, false] rfl rfl (any_of HT_.out (by kernel_rfl)) (fun _ _ _ h => h) (Or.inl ⟨by rfl, ?_⟩) ?_ ?_
       rotate_left
       ·intro w'
        go_simp
        with_reducible rfl
       rotate_left
       ·simp only [Act.put, List.setIfInBounds_toArray, List.set_cons_zero, List.set_cons_succ, i64_w, i32_w]
        rfl
       refine pure_ (i := 19) (N := some 23) (v := ?_) (a' := ?_) #[true, false, false, true, false, false, true, false, false, false, true, false, false, false, false, true, false, false, false, true, false, false, false, false, false, false, false, false, false, false, false, false, false, false, false, false] rfl rfl (any_of HT_.out (by kernel_rfl)) (fun _ _ _ h => h) (Or.inl ⟨by rfl, ?_⟩) ?_ ?_
       rotate_left
       ·intro w'
        go_simp
        with_reducible rfl
       rotate_left
       ·simp only [Act.put, List.setIfInBounds_toArray, List.set_cons_zero, List.set_cons_succ, i64_w, i32_w]
        rfl
       refine pure_ (i := 22) (N := some 26) (v := ?_) (a' := ?_) #[true, false, false, true, false, false, true, false, false, false, true, false, false, false, false, true, false, false, false, true, false, false, true, false, false, false, false, false, false, false, false, false, false, false, false, false] rfl rfl (any_of HT_.out (by kernel_rfl)) (fun _ _ _ h => h) (Or.inl ⟨by rfl, ?_⟩) ?_ ?_
       rotate_left
       ·intro w'
        go_simp
        with_reducible rfl
       rotate_left
       ·simp only [Act.put, List.setIfInBounds_toArray, List.set_cons_zero, List.set_cons_succ, i64_w, i32_w]
        rfl
       refine pure_ (i := 26) (N := some 30) (v := ?_) (a' := ?_) #[true, false, false, true, false, false, true, false, false, false, true, false, false, false, false, true, false, false, false, true, false, false, true, false, false, false, true, false, false, false, false, false, false, false, false, false] rfl rfl (any_of HT_.out (by kernel_rfl)) (fun _ _ _ h => h) (Or.inl ⟨by rfl, ?_⟩) ?_ ?_
       rotate_left
       ·intro w'
        go_simp
        with_reducible rfl
       rotate_left
       ·simp only [Act.put, List.setIfInBounds_toArray, List.set_cons_zero, List.set_cons_succ, i64_w, i32_w]
        rfl
       refine pure_ (i := 30) (N := some 34) (v := ?_) (a' := ?_) #[true, false, false, true, false, false, true, false, false, false, true, false, false, false, false, true, false, false, false, true, false, false, true, false, false, false, true, false, false, false, true, false, false, false, false, false] rfl rfl (any_of HT_.out (by kernel_rfl)) (fun _ _ _ h => h) (Or.inl ⟨by rfl, ?_⟩) ?_ ?_
       rotate_left
       ·intro w'
        go_simp
        with_reducible rfl
       rotate_left
       ·simp only [Act.put, List.setIfInBounds_toArray, List.set_cons_zero, List.set_cons_succ, i64_w, i32_w]
        rfl
       refine inv_at [1, 2, 4, 5, 7, 8, 9, 11, 12, 13, 14, 16, 17, 18, 20, 21, 23, 24, 25, 27, 28, 29, 31, 32, 33, 34, 35] (fun a0_ b a w' => ∃ (v115 : Value) (adz_v115 : Addr) (v121 : Value) (adz_v121 : Addr) (v131 : Value) (adz_v131 : Addr) (gb138 : Nat) (m12_ : Value) (m17_ : Value) (m28_ : Value) (m34_ : Value), a = putSel a0_ b [(1, 5, .int .i64 t108), (2, 6, .int .i64 (wrap64 (1 + t108))), (4, 8, .int .i64 t110), (5, 9, .int .i64 (wrap64 (1 + t110))), (7, 11, .int .i64 t112), (8, 12, .int .i64 (wrap64 (1 + t112))), (9, 13, v115), (11, 15, .int .i64 t117), (12, 16, m12_), (13, 17, .int .i64 (rd y114 t117)), (14, 18, v121), (16, 20, .int .i64 t123), (17, 21, m17_), (18, 22, .int .i64 (rd y120 t123)), (20, 24, .int .i64 t126), (21, 25, .int .i64 (wrap64 (1 + t126))), (23, 27, .int .i64 t128), (24, 28, .bool (t128 == 0)), (25, 29, v131), (27, 31, .int .i64 t133), (28, 32, m28_), (29, 33, .int .i64 (rd y130 t133)), (31, 35, .int .i64 t136), (32, 36, .int .i64 (wrap64 (1 + t136))), (33, 37, .agg #[.int .i64 (wrap64 (1 + t108)), .int .i64 (wrap64 (1 + t110)), .int .i64 (wrap64 (1 + t112)), .int .i64 (rd y114 t117), .int .i64 0, .int .i64 (rd y120 t123), .int .i64 (wrap64 (1 + t126)), .bool (t128 == 0), .int .i64 (rd y130 t133), .int .i64 (wrap64 (1 + t136))]), (34, 3, m34_)] ∧ (w'.heap[gb107]? = some (.cells #[.int .i64 0, .int .i64 0, .int .i64 0, .int .i64 0, .int .i64 0, .int .i64 0, .int .i64 0, .bool false, .int .i64 0, .int .i64 0] 50 (0, 0))) ∧ (b 1 = false → IsS115 w0 w' g s0_0 s0_1) ∧ (KeepBut w w' g none) ∧ (Below w0.heap.size w0 w') ∧ (b 1 = true → b 4 = false → IsS115 w0 w' g s0_0 t109) ∧ (b 4 = true → b 7 = false → IsS115 w0 w' g s0_0 t111) ∧ (b 7 = true → b 11 = false → IsS115 w0 w' g s0_0 t113) ∧ (b 9 = true → Kd.R (Kd.int .i64) 3 w' w.heap.size (fun _ => True) v115 y114) ∧ (b 9 = true → ∃ c_, (v115 : Value) = .slice (some adz_v115) y114.length c_) ∧ (b 11 = true → b 16 = false → IsS115 w0 w' g s0_0 t118) ∧ (b 14 = true → Kd.R (Kd.int .i64) 3 w' w.heap.size (fun _ => True) v121 y120) ∧ (b 14 = true → ∃ c_, (v121 : Value) = .slice (some adz_v121) y120.length c_) ∧ (b 16 = true → b 20 = false → IsS115 w0 w' g s0_0 t124) ∧ (b 20 = true → b 23 = false → IsS115 w0 w' g s0_0 t127) ∧ (b 23 = true → b 27 = false → IsS115 w0 w' g s0_0 t129) ∧ (b 25 = true → Kd.R (Kd.int .i64) 3 w' w.heap.size (fun _ => True) v131 y130) ∧ (b 25 = true → ∃ c_, (v131 : Value) = .slice (some adz_v131) y130.length c_) ∧ (b 27 = true → b 31 = false → IsS115 w0 w' g s0_0 t134) ∧ (b 31 = true → IsS115 w0 w' g s0_0 t137) ∧ (b 34 = true → b 35 = false → w'.heap[gb138]? = some (.cells #[.int .i64 0, .int .i64 0, .int .i64 0, .int .i64 0, .int .i64 0, .int .i64 0, .int .i64 0, .bool false, .int .i64 0, .int .i64 0] 50 (0, 0))) ∧ (b 34 = true → w.heap.size ≤ gb138) ∧ (b 34 = true → w0.heap.size ≤ gb138) ∧ (b 34 = true → g ≠ gb138) ∧ (b 34 = true → gb138 ≠ g) ∧ (b 34 = true → gb107 ≠ gb138) ∧ (b 34 = true → gb138 ≠ gb107) ∧ (b 35 = true → w'.heap[gb138]? = some (.cells #[.int .i64 (wrap64 (1 + t108)), .int .i64 (wrap64 (1 + t110)), .int .i64 (wrap64 (1 + t112)), .int .i64 (rd y114 t117), .int .i64 0, .int .i64 (rd y120 t123), .int .i64 (wrap64 (1 + t126)), .bool (t128 == 0), .int .i64 (rd y130 t133), .int .i64 (wrap64 (1 + t136))] 50 (0, 0))) ∧ (b 12 = true → (m12_ : Value) = .pointer (some (adz_v115.add (t117).toNat))) ∧ (b 17 = true → (m17_ : Value) = .pointer (some (adz_v121.add (t123).toNat))) ∧ (b 28 = true → (m28_ : Value) = .pointer (some (adz_v131.add (t133).toNat))) ∧ (b 34 = true → (m34_ : Value) = .pointer (some ⟨gb138, 0, none⟩))) HT_.out HW_.out (by kernel_rfl) (by kernel_rfl) ?_ ?_ ?_
       ·exact ⟨.bool false, ⟨0, 0, none⟩, .bool false, ⟨0, 0, none⟩, .bool false, ⟨0, 0, none⟩, 0, .bool false, .bool false, .bool false, .bool false, by simp only [putSel, Bool.false_eq_true, if_false], BK107.out, fun _ => HI0.out, HK.out, HB.out, fun h_ => absurd h_ (by decide), fun h_ => absurd h_ (by decide), fun h_ => absurd h_ (by decide), fun h_ => absurd h_ (by decide), fun h_ => absurd h_ (by decide), fun h_ => absurd h_ (by decide), fun h_ => absurd h_ (by decide), fun h_ => absurd h_ (by decide), fun h_ => absurd h_ (by decide), fun h_ => absurd h_ (by decide), fun h_ => absurd h_ (by decide), fun h_ => absurd h_ (by decide), fun h_ => absurd h_ (by decide), fun h_ => absurd h_ (by decide), fun h_ => absurd h_ (by decide), fun h_ => absurd h_ (by decide), fun h_ => absurd h_ (by decide), fun h_ => absurd h_ (by decide), fun h_ => absurd h_ (by decide), fun h_ => absurd h_ (by decide), fun h_ => absurd h_ (by decide), fun h_ => absurd h_ (by decide), fun h_ => absurd h_ (by decide), fun h_ => absurd h_ (by decide), fun h_ => absurd h_ (by decide), fun h_ => absurd h_ (by decide), fun h_ => absurd h_ (by decide)⟩
       ·skip
        clear BK107 HB HI0 HK
        refine steps_cons ?_ ?_
        ·rintro b a w' ⟨v115, adz_v115, v121, adz_v121, v131, adz_v131, gb138, m12_, m17_, m28_, m34_, ha, Q_BK107, Q_HI0, Q_HK, Q_HB, Q_HI0_e1, Q_HI0_e4, Q_HI0_e7, Q_HO116, Q_HA_HO116, Q_HI0_e11, Q_HO122, Q_HA_HO122, Q_HI0_e16, Q_HI0_e20, Q_HI0_e23, Q_HO132, Q_HA_HO132, Q_HI0_e27, Q_HI0_e31, Q_BK138, Q_GW138, Q_GE138, Q_NB0_138, Q_NB138_0, Q_NB107_138, Q_NB138_107, Q_BK138_e35, Q_X12_, Q_X17_, Q_X28_, Q_X34_⟩ hb_ hon hoff
         refine ⟨_, rfl, fun K hK => ?_⟩
         have e4 : a.tmps[4]? = some (.pointer (some ⟨g, 0, none⟩)) := by rw [ha]; exact (putSel_off rfl).trans rfl
         replace ha := Aside0.mk ha
         have BK107 := Aside0.mk Q_BK107
         have HI0 := Aside0.mk (Q_HI0 hb_)
         have HK := Aside0.mk Q_HK
         have HB := Aside0.mk Q_HB
         refine goes_ Try.func74 (by kernel_rfl) rfl #[.pointer (some ⟨g, 0, none⟩), .int .i64 3] (by rfl) rfl rfl (by first | (simp only [List.map_toArray, List.map_cons, List.map_nil, Act.eval, Array.getD_eq_getD_getElem?, Option.getD_some, e4]; done) | (simp only [List.map_toArray, List.map_cons, List.map_nil, Act.eval, Array.getD_eq_getD_getElem?, Option.getD_some, e4]; rfl)) ?_
         with_reducible refine (spec_l20Rd_pick.calls k g s0_0 s0_1 3 t108 t109 w0 _ ?side1 ?side2 A2.out).mono ?_
         (case side1 => repeat (first | (with_reducible first | exact HI0.out | apply IsS115.alloc | apply IsS115.drewN | apply IsS115.drew | apply IsS115.set_1 | refine IsS115.far ?_ NB0_107.out _) | exact HI0.out))
         (case side2 => repeat (first | (with_reducible first | exact HB.out | apply below_alloc | apply pw_below_drewN | apply below_drew1 | refine below_set ?_ (IsS115.ge HI0.out) | refine below_set ?_ GE107.out) | exact HB.out))
         rintro e w20 ⟨rfl, hi, hb, hk⟩
         refine ⟨_, rfl, ?_⟩
         have n0_ := Aside0.mk (KeepBut.blk hk (g' := gb107) (o := .cells #[.int .i64 0, .int .i64 0, .int .i64 0, .int .i64 0, .int .i64 0, .int .i64 0, .int .i64 0, .bool false, .int .i64 0, .int .i64 0] 50 (0, 0)) (by (with_reducible repeat (first | refine blk_drewN ?_ _ | refine blk_drew ?_ | refine blk_alloc ?_ _)); exact BK107.out) NB107_0.out (by simp))
         have n1_ := Aside0.mk (KeepBut.trans (by repeat (first | (with_reducible first | exact HK.out | apply KeepBut.set_ | apply keep_drewN | apply keep_drew | apply keep_alloc | refine keep_far ?_ GW107.out _) | exact HK.out)) hk (.inl rfl))
         have n2_ := Aside0.mk (hb)
         have n3_ := Aside0.mk (hi)
         have z_HO116 := fun (h0_ : b 9 = true) => (show Kd.R (Kd.int .i64) 3 w20 w.heap.size (fun _ => True) v115 y114 from by first | exact (Kd.R_mono (Kd.R_keep (IsS115.apart (show IsS115 w0 _ g s0_0 s0_1 from by repeat (first | (with_reducible first | exact HI0.out | apply IsS115.alloc | apply IsS115.drewN | apply IsS115.drew | apply IsS115.set_1 | refine IsS115.far ?_ NB0_107.out _) | exact HI0.out)) (by (with_reducible repeat (first | apply Kd.R_alloc | apply Kd.R_drewN | apply Kd.R_drew)); exact (Q_HO116 h0_)) (by decide)) hk (fun _ h => h.2)) (fun _ h => h.1)) | exact Kd.R_mono (Kd.R_mono (Kd.R_keep (IsS115.apart (show IsS115 w0 _ g s0_0 s0_1 from by repeat (first | (with_reducible first | exact HI0.out | apply IsS115.alloc | apply IsS115.drewN | apply IsS115.drew | apply IsS115.set_1 | refine IsS115.far ?_ NB0_107.out _) | exact HI0.out)) (by (with_reducible repeat (first | apply Kd.R_alloc | apply Kd.R_drewN | apply Kd.R_drew)); exact (Q_HO116 h0_)) (by decide)) hk (fun _ h => h.2)) (fun _ h => h.1)) (fun _ h_ => by first | trivial | exact h_ | exact h_.1))
         have z_HO122 := fun (h0_ : b 14 = true) => (show Kd.R (Kd.int .i64) 3 w20 w.heap.size (fun _ => True) v121 y120 from by first | exact (Kd.R_mono (Kd.R_keep (IsS115.apart (show IsS115 w0 _ g s0_0 s0_1 from by repeat (first | (with_reducible first | exact HI0.out | apply IsS115.alloc | apply IsS115.drewN | apply IsS115.drew | apply IsS115.set_1 | refine IsS115.far ?_ NB0_107.out _) | exact HI0.out)) (by (with_reducible repeat (first | apply Kd.R_alloc | apply Kd.R_drewN | apply Kd.R_drew)); exact (Q_HO122 h0_)) (by decide)) hk (fun _ h => h.2)) (fun _ h => h.1)) | exact Kd.R_mono (Kd.R_mono (Kd.R_keep (IsS115.apart (show IsS115 w0 _ g s0_0 s0_1 from by repeat (first | (with_reducible first | exact HI0.out | apply IsS115.alloc | apply IsS115.drewN | apply IsS115.drew | apply IsS115.set_1 | refine IsS115.far ?_ NB0_107.out _) | exact HI0.out)) (by (with_reducible repeat (first | apply Kd.R_alloc | apply Kd.R_drewN | apply Kd.R_drew)); exact (Q_HO122 h0_)) (by decide)) hk (fun _ h => h.2)) (fun _ h => h.1)) (fun _ h_ => by first | trivial | exact h_ | exact h_.1))
         have z_HO132 := fun (h0_ : b 25 = true) => (show Kd.R (Kd.int .i64) 3 w20 w.heap.size (fun _ => True) v131 y130 from by first | exact (Kd.R_mono (Kd.R_keep (IsS115.apart (show IsS115 w0 _ g s0_0 s0_1 from by repeat (first | (with_reducible first | exact HI0.out | apply IsS115.alloc | apply IsS115.drewN | apply IsS115.drew | apply IsS115.set_1 | refine IsS115.far ?_ NB0_107.out _) | exact HI0.out)) (by (with_reducible repeat (first | apply Kd.R_alloc | apply Kd.R_drewN | apply Kd.R_drew)); exact (Q_HO132 h0_)) (by decide)) hk (fun _ h => h.2)) (fun _ h => h.1)) | exact Kd.R_mono (Kd.R_mono (Kd.R_keep (IsS115.apart (show IsS115 w0 _ g s0_0 s0_1 from by repeat (first | (with_reducible first | exact HI0.out | apply IsS115.alloc | apply IsS115.drewN | apply IsS115.drew | apply IsS115.set_1 | refine IsS115.far ?_ NB0_107.out _) | exact HI0.out)) (by (with_reducible repeat (first | apply Kd.R_alloc | apply Kd.R_drewN | apply Kd.R_drew)); exact (Q_HO132 h0_)) (by decide)) hk (fun _ h => h.2)) (fun _ h => h.1)) (fun _ h_ => by first | trivial | exact h_ | exact h_.1))
         have z_BK138 := fun (h0_ : b 34 = true) (h1_ : b 35 = false) => (show w20.heap[gb138]? = some (.cells #[.int .i64 0, .int .i64 0, .int .i64 0, .int .i64 0, .int .i64 0, .int .i64 0, .int .i64 0, .bool false, .int .i64 0, .int .i64 0] 50 (0, 0)) from by first | exact (KeepBut.blk hk (g' := gb138) (o := .cells #[.int .i64 0, .int .i64 0, .int .i64 0, .int .i64 0, .int .i64 0, .int .i64 0, .int .i64 0, .bool false, .int .i64 0, .int .i64 0] 50 (0, 0)) (by (with_reducible repeat (first | refine blk_drewN ?_ _ | refine blk_drew ?_ | refine blk_alloc ?_ _)); exact (Q_BK138 h0_ h1_)) (Q_NB138_0 h0_) (by simp)))
         clear BK107
         clear HK
         clear HB
         clear HI0
         have BK107 := n0_
         have HK := n1_
         have HB := n2_
         have HI0 := n3_
         clear n0_ n1_ n2_ n3_
         (try clear hb)
         (try clear hb2)
         (try clear hk)
         (try clear hi)
         refine hK.out _ _ ⟨v115, adz_v115, v121, adz_v121, v131, adz_v131, gb138, m12_, m17_, m28_, m34_, (by rw [ha.out]; exact putSel_upk 0 hb_ rfl rfl rfl), (by (with_reducible repeat (first | refine blk_drewN ?_ _ | refine blk_drew ?_ | refine blk_alloc ?_ _)); exact BK107.out), fun h0_ => absurd ((up_self b 1).symm.trans h0_) (by decide), (by repeat (first | (with_reducible first | exact HK.out | apply KeepBut.set_ | apply keep_drewN | apply keep_drew | apply keep_alloc | refine keep_far ?_ GW107.out _) | exact HK.out)), (by repeat (first | (with_reducible first | exact HB.out | apply below_alloc | apply pw_below_drewN | apply below_drew1 | refine below_set ?_ (IsS115.ge HI0.out) | refine below_set ?_ GE107.out) | exact HB.out)), fun _ _ => (by repeat (first | (with_reducible first | exact HI0.out | apply IsS115.alloc | apply IsS115.drewN | apply IsS115.drew | apply IsS115.set_1 | refine IsS115.far ?_ NB0_107.out _) | exact HI0.out)), fun h0_ _ => absurd ((hoff 4 (by kernel_rfl)).symm.trans h0_) (by decide), fun h0_ _ => absurd ((hoff 7 (by kernel_rfl)).symm.trans h0_) (by decide), z_HO116, Q_HA_HO116, fun h0_ _ => absurd ((hoff 11 (by kernel_rfl)).symm.trans h0_) (by decide), z_HO122, Q_HA_HO122, fun h0_ _ => absurd ((hoff 16 (by kernel_rfl)).symm.trans h0_) (by decide), fun h0_ _ => absurd ((hoff 20 (by kernel_rfl)).symm.trans h0_) (by decide), fun h0_ _ => absurd ((hoff 23 (by kernel_rfl)).symm.trans h0_) (by decide), z_HO132, Q_HA_HO132, fun h0_ _ => absurd ((hoff 27 (by kernel_rfl)).symm.trans h0_) (by decide), fun h0_ => absurd ((hoff 31 (by kernel_rfl)).symm.trans h0_) (by decide), z_BK138, Q_GW138, Q_GE138, Q_NB0_138, Q_NB138_0, Q_NB107_138, Q_NB138_107, fun h0_ => absurd ((hoff 35 (by kernel_rfl)).symm.trans h0_) (by decide), fun h0_ => absurd ((hoff 12 (by kernel_rfl)).symm.trans h0_) (by decide), fun h0_ => absurd ((hoff 17 (by kernel_rfl)).symm.trans h0_) (by decide), fun h0_ => absurd ((hoff 28 (by kernel_rfl)).symm.trans h0_) (by decide), Q_X34_⟩
        refine steps_cons ?_ ?_
        ·rintro b a w' ⟨v115, adz_v115, v121, adz_v121, v131, adz_v131, gb138, m12_, m17_, m28_, m34_, ha, Q_BK107, Q_HI0, Q_HK, Q_HB, Q_HI0_e1, Q_HI0_e4, Q_HI0_e7, Q_HO116, Q_HA_HO116, Q_HI0_e11, Q_HO122, Q_HA_HO122, Q_HI0_e16, Q_HI0_e20, Q_HI0_e23, Q_HO132, Q_HA_HO132, Q_HI0_e27, Q_HI0_e31, Q_BK138, Q_GW138, Q_GE138, Q_NB0_138, Q_NB138_0, Q_NB107_138, Q_NB138_107, Q_BK138_e35, Q_X12_, Q_X17_, Q_X28_, Q_X34_⟩ hb_ hon hoff
         refine ⟨_, rfl, fun K hK => ?_⟩
         have e5 : a.tmps[5]? = some (.int .i64 t108) := by rw [ha]; exact putSel_on (e := (1, 5, .int .i64 t108)) 0 rfl rfl (hon 1 (by kernel_rfl)) rfl
         replace ha := Aside0.mk ha
         have BK107 := Aside0.mk Q_BK107
         have HK := Aside0.mk Q_HK
         have HB := Aside0.mk Q_HB
         refine value_ (w1 := w') (v := .int .i64 (wrap64 (1 + t108))) (by rfl) rfl ?_ ?_
         ·go_simp
          (try simp only [i64_w])
          try rfl
         refine hK.out _ _ ⟨v115, adz_v115, v121, adz_v121, v131, adz_v131, gb138, m12_, m17_, m28_, m34_, (by rw [ha.out]; exact putSel_upk 1 hb_ rfl rfl rfl), Q_BK107, fun h0_ => absurd ((hon 1 (by kernel_rfl)).symm.trans h0_) (by decide), Q_HK, Q_HB, Q_HI0_e1, Q_HI0_e4, Q_HI0_e7, Q_HO116, Q_HA_HO116, Q_HI0_e11, Q_HO122, Q_HA_HO122, Q_HI0_e16, Q_HI0_e20, Q_HI0_e23, Q_HO132, Q_HA_HO132, Q_HI0_e27, Q_HI0_e31, Q_BK138, Q_GW138, Q_GE138, Q_NB0_138, Q_NB138_0, Q_NB107_138, Q_NB138_107, fun h0_ => absurd ((hoff 35 (by kernel_rfl)).symm.trans h0_) (by decide), Q_X12_, Q_X17_, Q_X28_, Q_X34_⟩
        refine steps_cons ?_ ?_
        ·rintro b a w' ⟨v115, adz_v115, v121, adz_v121, v131, adz_v131, gb138, m12_, m17_, m28_, m34_, ha, Q_BK107, Q_HI0, Q_HK, Q_HB, Q_HI0_e1, Q_HI0_e4, Q_HI0_e7, Q_HO116, Q_HA_HO116, Q_HI0_e11, Q_HO122, Q_HA_HO122, Q_HI0_e16, Q_HI0_e20, Q_HI0_e23, Q_HO132, Q_HA_HO132, Q_HI0_e27, Q_HI0_e31, Q_BK138, Q_GW138, Q_GE138, Q_NB0_138, Q_NB138_0, Q_NB107_138, Q_NB138_107, Q_BK138_e35, Q_X12_, Q_X17_, Q_X28_, Q_X34_⟩ hb_ hon hoff
         refine ⟨_, rfl, fun K hK => ?_⟩
         have e7 : a.tmps[7]? = some (.pointer (some ⟨g, 0, none⟩)) := by rw [ha]; exact (putSel_off rfl).trans rfl
         replace ha := Aside0.mk ha
         have BK107 := Aside0.mk Q_BK107
         have HK := Aside0.mk Q_HK
         have HB := Aside0.mk Q_HB
         have HI0 := Aside0.mk (Q_HI0_e1 (hon 1 (by kernel_rfl)) hb_)
         refine goes_ Try.func74 (by kernel_rfl) rfl #[.pointer (some ⟨g, 0, none⟩), .int .i64 2] (by rfl) rfl rfl (by first | (simp only [List.map_toArray, List.map_cons, List.map_nil, Act.eval, Array.getD_eq_getD_getElem?, Option.getD_some, e7]; done) | (simp only [List.map_toArray, List.map_cons, List.map_nil, Act.eval, Array.getD_eq_getD_getElem?, Option.getD_some, e7]; rfl)) ?_
         with_reducible refine (spec_l20Rd_pick.calls k g s0_0 t109 2 t110 t111 w0 _ ?side1 ?side2 A3.out).mono ?_
         (case side1 => repeat (first | (with_reducible first | exact HI0.out | apply IsS115.alloc | apply IsS115.drewN | apply IsS115.drew | apply IsS115.set_1 | refine IsS115.far ?_ NB0_107.out _) | exact HI0.out))
         (case side2 => repeat (first | (with_reducible first | exact HB.out | apply below_alloc | apply pw_below_drewN | apply below_drew1 | refine below_set ?_ (IsS115.ge HI0.out) | refine below_set ?_ GE107.out) | exact HB.out))
         rintro e w22 ⟨rfl, hi, hb, hk⟩
         refine ⟨_, rfl, ?_⟩
         have n0_ := Aside0.mk (KeepBut.blk hk (g' := gb107) (o := .cells #[.int .i64 0, .int .i64 0, .int .i64 0, .int .i64 0, .int .i64 0, .int .i64 0, .int .i64 0, .bool false, .int .i64 0, .int .i64 0] 50 (0, 0)) (by (with_reducible repeat (first | refine blk_drewN ?_ _ | refine blk_drew ?_ | refine blk_alloc ?_ _)); exact BK107.out) NB107_0.out (by simp))
         have n1_ := Aside0.mk (KeepBut.trans (by repeat (first | (with_reducible first | exact HK.out | apply KeepBut.set_ | apply keep_drewN | apply keep_drew | apply keep_alloc | refine keep_far ?_ GW107.out _) | exact HK.out)) hk (.inl rfl))
         have n2_ := Aside0.mk (hb)
         have n3_ := Aside0.mk (hi)
         have z_HO116 := fun (h0_ : b 9 = true) => (show Kd.R (Kd.int .i64) 3 w22 w.heap.size (fun _ => True) v115 y114 from by first | exact (Kd.R_mono (Kd.R_keep (IsS115.apart (show IsS115 w0 _ g s0_0 t109 from by repeat (first | (with_reducible first | exact HI0.out | apply IsS115.alloc | apply IsS115.drewN | apply IsS115.drew | apply IsS115.set_1 | refine IsS115.far ?_ NB0_107.out _) | exact HI0.out)) (by (with_reducible repeat (first | apply Kd.R_alloc | apply Kd.R_drewN | apply Kd.R_drew)); exact (Q_HO116 h0_)) (by decide)) hk (fun _ h => h.2)) (fun _ h => h.1)) | exact Kd.R_mono (Kd.R_mono (Kd.R_keep (IsS115.apart (show IsS115 w0 _ g s0_0 t109 from by repeat (first | (with_reducible first | exact HI0.out | apply IsS115.alloc | apply IsS115.drewN | apply IsS115.drew | apply IsS115.set_1 | refine IsS115.far ?_ NB0_107.out _) | exact HI0.out)) (by (with_reducible repeat (first | apply Kd.R_alloc | apply Kd.R_drewN | apply Kd.R_drew)); exact (Q_HO116 h0_)) (by decide)) hk (fun _ h => h.2)) (fun _ h => h.1)) (fun _ h_ => by first | trivial | exact h_ | exact h_.1))
         have z_HO122 := fun (h0_ : b 14 = true) => (show Kd.R (Kd.int .i64) 3 w22 w.heap.size (fun _ => True) v121 y120 from by first | exact (Kd.R_mono (Kd.R_keep (IsS115.apart (show IsS115 w0 _ g s0_0 t109 from by repeat (first | (with_reducible first | exact HI0.out | apply IsS115.alloc | apply IsS115.drewN | apply IsS115.drew | apply IsS115.set_1 | refine IsS115.far ?_ NB0_107.out _) | exact HI0.out)) (by (with_reducible repeat (first | apply Kd.R_alloc | apply Kd.R_drewN | apply Kd.R_drew)); exact (Q_HO122 h0_)) (by decide)) hk (fun _ h => h.2)) (fun _ h => h.1)) | exact Kd.R_mono (Kd.R_mono (Kd.R_keep (IsS115.apart (show IsS115 w0 _ g s0_0 t109 from by repeat (first | (with_reducible first | exact HI0.out | apply IsS115.alloc | apply IsS115.drewN | apply IsS115.drew | apply IsS115.set_1 | refine IsS115.far ?_ NB0_107.out _) | exact HI0.out)) (by (with_reducible repeat (first | apply Kd.R_alloc | apply Kd.R_drewN | apply Kd.R_drew)); exact (Q_HO122 h0_)) (by decide)) hk (fun _ h => h.2)) (fun _ h => h.1)) (fun _ h_ => by first | trivial | exact h_ | exact h_.1))
         have z_HO132 := fun (h0_ : b 25 = true) => (show Kd.R (Kd.int .i64) 3 w22 w.heap.size (fun _ => True) v131 y130 from by first | exact (Kd.R_mono (Kd.R_keep (IsS115.apart (show IsS115 w0 _ g s0_0 t109 from by repeat (first | (with_reducible first | exact HI0.out | apply IsS115.alloc | apply IsS115.drewN | apply IsS115.drew | apply IsS115.set_1 | refine IsS115.far ?_ NB0_107.out _) | exact HI0.out)) (by (with_reducible repeat (first | apply Kd.R_alloc | apply Kd.R_drewN | apply Kd.R_drew)); exact (Q_HO132 h0_)) (by decide)) hk (fun _ h => h.2)) (fun _ h => h.1)) | exact Kd.R_mono (Kd.R_mono (Kd.R_keep (IsS115.apart (show IsS115 w0 _ g s0_0 t109 from by repeat (first | (with_reducible first | exact HI0.out | apply IsS115.alloc | apply IsS115.drewN | apply IsS115.drew | apply IsS115.set_1 | refine IsS115.far ?_ NB0_107.out _) | exact HI0.out)) (by (with_reducible repeat (first | apply Kd.R_alloc | apply Kd.R_drewN | apply Kd.R_drew)); exact (Q_HO132 h0_)) (by decide)) hk (fun _ h => h.2)) (fun _ h => h.1)) (fun _ h_ => by first | trivial | exact h_ | exact h_.1))
         have z_BK138 := fun (h0_ : b 34 = true) (h1_ : b 35 = false) => (show w22.heap[gb138]? = some (.cells #[.int .i64 0, .int .i64 0, .int .i64 0, .int .i64 0, .int .i64 0, .int .i64 0, .int .i64 0, .bool false, .int .i64 0, .int .i64 0] 50 (0, 0)) from by first | exact (KeepBut.blk hk (g' := gb138) (o := .cells #[.int .i64 0, .int .i64 0, .int .i64 0, .int .i64 0, .int .i64 0, .int .i64 0, .int .i64 0, .bool false, .int .i64 0, .int .i64 0] 50 (0, 0)) (by (with_reducible repeat (first | refine blk_drewN ?_ _ | refine blk_drew ?_ | refine blk_alloc ?_ _)); exact (Q_BK138 h0_ h1_)) (Q_NB138_0 h0_) (by simp)))
         clear BK107
         clear HK
         clear HB
         clear HI0
         have BK107 := n0_
         have HK := n1_
         have HB := n2_
         have HI0 := n3_
         clear n0_ n1_ n2_ n3_
         (try clear hb)
         (try clear hb2)
         (try clear hk)
         (try clear hi)
         refine hK.out _ _ ⟨v115, adz_v115, v121, adz_v121, v131, adz_v131, gb138, m12_, m17_, m28_, m34_, (by rw [ha.out]; exact putSel_upk 2 hb_ rfl rfl rfl), (by (with_reducible repeat (first | refine blk_drewN ?_ _ | refine blk_drew ?_ | refine blk_alloc ?_ _)); exact BK107.out), fun h0_ => absurd ((hon 1 (by kernel_rfl)).symm.trans h0_) (by decide), (by repeat (first | (with_reducible first | exact HK.out | apply KeepBut.set_ | apply keep_drewN | apply keep_drew | apply keep_alloc | refine keep_far ?_ GW107.out _) | exact HK.out)), (by repeat (first | (with_reducible first | exact HB.out | apply below_alloc | apply pw_below_drewN | apply below_drew1 | refine below_set ?_ (IsS115.ge HI0.out) | refine below_set ?_ GE107.out) | exact HB.out)), fun _ h1_ => absurd ((up_self b 4).symm.trans h1_) (by decide), fun _ _ => (by repeat (first | (with_reducible first | exact HI0.out | apply IsS115.alloc | apply IsS115.drewN | apply IsS115.drew | apply IsS115.set_1 | refine IsS115.far ?_ NB0_107.out _) | exact HI0.out)), fun h0_ _ => absurd ((hoff 7 (by kernel_rfl)).symm.trans h0_) (by decide), z_HO116, Q_HA_HO116, fun h0_ _ => absurd ((hoff 11 (by kernel_rfl)).symm.trans h0_) (by decide), z_HO122, Q_HA_HO122, fun h0_ _ => absurd ((hoff 16 (by kernel_rfl)).symm.trans h0_) (by decide), fun h0_ _ => absurd ((hoff 20 (by kernel_rfl)).symm.trans h0_) (by decide), fun h0_ _ => absurd ((hoff 23 (by kernel_rfl)).symm.trans h0_) (by decide), z_HO132, Q_HA_HO132, fun h0_ _ => absurd ((hoff 27 (by kernel_rfl)).symm.trans h0_) (by decide), fun h0_ => absurd ((hoff 31 (by kernel_rfl)).symm.trans h0_) (by decide), z_BK138, Q_GW138, Q_GE138, Q_NB0_138, Q_NB138_0, Q_NB107_138, Q_NB138_107, fun h0_ => absurd ((hoff 35 (by kernel_rfl)).symm.trans h0_) (by decide), fun h0_ => absurd ((hoff 12 (by kernel_rfl)).symm.trans h0_) (by decide), fun h0_ => absurd ((hoff 17 (by kernel_rfl)).symm.trans h0_) (by decide), fun h0_ => absurd ((hoff 28 (by kernel_rfl)).symm.trans h0_) (by decide), Q_X34_⟩
        refine steps_cons ?_ ?_
        ·rintro b a w' ⟨v115, adz_v115, v121, adz_v121, v131, adz_v131, gb138, m12_, m17_, m28_, m34_, ha, Q_BK107, Q_HI0, Q_HK, Q_HB, Q_HI0_e1, Q_HI0_e4, Q_HI0_e7, Q_HO116, Q_HA_HO116, Q_HI0_e11, Q_HO122, Q_HA_HO122, Q_HI0_e16, Q_HI0_e20, Q_HI0_e23, Q_HO132, Q_HA_HO132, Q_HI0_e27, Q_HI0_e31, Q_BK138, Q_GW138, Q_GE138, Q_NB0_138, Q_NB138_0, Q_NB107_138, Q_NB138_107, Q_BK138_e35, Q_X12_, Q_X17_, Q_X28_, Q_X34_⟩ hb_ hon hoff
         refine ⟨_, rfl, fun K hK => ?_⟩
         have e8 : a.tmps[8]? = some (.int .i64 t110) := by rw [ha]; exact putSel_on (e := (4, 8, .int .i64 t110)) 2 rfl rfl (hon 4 (by kernel_rfl)) rfl
         replace ha := Aside0.mk ha
         have BK107 := Aside0.mk Q_BK107
         have HK := Aside0.mk Q_HK
         have HB := Aside0.mk Q_HB
         refine value_ (w1 := w') (v := .int .i64 (wrap64 (1 + t110))) (by rfl) rfl ?_ ?_
         ·go_simp
          (try simp only [i64_w])
          try rfl
         refine hK.out _ _ ⟨v115, adz_v115, v121, adz_v121, v131, adz_v131, gb138, m12_, m17_, m28_, m34_, (by rw [ha.out]; exact putSel_upk 3 hb_ rfl rfl rfl), Q_BK107, fun h0_ => absurd ((hon 1 (by kernel_rfl)).symm.trans h0_) (by decide), Q_HK, Q_HB, fun _ h1_ => absurd ((hon 4 (by kernel_rfl)).symm.trans h1_) (by decide), Q_HI0_e4, Q_HI0_e7, Q_HO116, Q_HA_HO116, Q_HI0_e11, Q_HO122, Q_HA_HO122, Q_HI0_e16, Q_HI0_e20, Q_HI0_e23, Q_HO132, Q_HA_HO132, Q_HI0_e27, Q_HI0_e31, Q_BK138, Q_GW138, Q_GE138, Q_NB0_138, Q_NB138_0, Q_NB107_138, Q_NB138_107, fun h0_ => absurd ((hoff 35 (by kernel_rfl)).symm.trans h0_) (by decide), Q_X12_, Q_X17_, Q_X28_, Q_X34_⟩
        refine steps_cons ?_ ?_
        ·rintro b a w' ⟨v115, adz_v115, v121, adz_v121, v131, adz_v131, gb138, m12_, m17_, m28_, m34_, ha, Q_BK107, Q_HI0, Q_HK, Q_HB, Q_HI0_e1, Q_HI0_e4, Q_HI0_e7, Q_HO116, Q_HA_HO116, Q_HI0_e11, Q_HO122, Q_HA_HO122, Q_HI0_e16, Q_HI0_e20, Q_HI0_e23, Q_HO132, Q_HA_HO132, Q_HI0_e27, Q_HI0_e31, Q_BK138, Q_GW138, Q_GE138, Q_NB0_138, Q_NB138_0, Q_NB107_138, Q_NB138_107, Q_BK138_e35, Q_X12_, Q_X17_, Q_X28_, Q_X34_⟩ hb_ hon hoff
         refine ⟨_, rfl, fun K hK => ?_⟩
         have e10 : a.tmps[10]? = some (.pointer (some ⟨g, 0, none⟩)) := by rw [ha]; exact (putSel_off rfl).trans rfl
         replace ha := Aside0.mk ha
         have BK107 := Aside0.mk Q_BK107
         have HK := Aside0.mk Q_HK
         have HB := Aside0.mk Q_HB
         have HI0 := Aside0.mk (Q_HI0_e4 (hon 4 (by kernel_rfl)) hb_)
         refine goes_ Try.func74 (by kernel_rfl) rfl #[.pointer (some ⟨g, 0, none⟩), .int .i64 3] (by rfl) rfl rfl (by first | (simp only [List.map_toArray, List.map_cons, List.map_nil, Act.eval, Array.getD_eq_getD_getElem?, Option.getD_some, e10]; done) | (simp only [List.map_toArray, List.map_cons, List.map_nil, Act.eval, Array.getD_eq_getD_getElem?, Option.getD_some, e10]; rfl)) ?_
         with_reducible refine (spec_l20Rd_pick.calls k g s0_0 t111 3 t112 t113 w0 _ ?side1 ?side2 A4.out).mono ?_
         (case side1 => repeat (first | (with_reducible first | exact HI0.out | apply IsS115.alloc | apply IsS115.drewN | apply IsS115.drew | apply IsS115.set_1 | refine IsS115.far ?_ NB0_107.out _) | exact HI0.out))
         (case side2 => repeat (first | (with_reducible first | exact HB.out | apply below_alloc | apply pw_below_drewN | apply below_drew1 | refine below_set ?_ (IsS115.ge HI0.out) | refine below_set ?_ GE107.out) | exact HB.out))
         rintro e w23 ⟨rfl, hi, hb, hk⟩
         refine ⟨_, rfl, ?_⟩
         have n0_ := Aside0.mk (KeepBut.blk hk (g' := gb107) (o := .cells #[.int .i64 0, .int .i64 0, .int .i64 0, .int .i64 0, .int .i64 0, .int .i64 0, .int .i64 0, .bool false, .int .i64 0, .int .i64 0] 50 (0, 0)) (by (with_reducible repeat (first | refine blk_drewN ?_ _ | refine blk_drew ?_ | refine blk_alloc ?_ _)); exact BK107.out) NB107_0.out (by simp))
         have n1_ := Aside0.mk (KeepBut.trans (by repeat (first | (with_reducible first | exact HK.out | apply KeepBut.set_ | apply keep_drewN | apply keep_drew | apply keep_alloc | refine keep_far ?_ GW107.out _) | exact HK.out)) hk (.inl rfl))
         have n2_ := Aside0.mk (hb)
         have n3_ := Aside0.mk (hi)
         have z_HO116 := fun (h0_ : b 9 = true) => (show Kd.R (Kd.int .i64) 3 w23 w.heap.size (fun _ => True) v115 y114 from by first | exact (Kd.R_mono (Kd.R_keep (IsS115.apart (show IsS115 w0 _ g s0_0 t111 from by repeat (first | (with_reducible first | exact HI0.out | apply IsS115.alloc | apply IsS115.drewN | apply IsS115.drew | apply IsS115.set_1 | refine IsS115.far ?_ NB0_107.out _) | exact HI0.out)) (by (with_reducible repeat (first | apply Kd.R_alloc | apply Kd.R_drewN | apply Kd.R_drew)); exact (Q_HO116 h0_)) (by decide)) hk (fun _ h => h.2)) (fun _ h => h.1)) | exact Kd.R_mono (Kd.R_mono (Kd.R_keep (IsS115.apart (show IsS115 w0 _ g s0_0 t111 from by repeat (first | (with_reducible first | exact HI0.out | apply IsS115.alloc | apply IsS115.drewN | apply IsS115.drew | apply IsS115.set_1 | refine IsS115.far ?_ NB0_107.out _) | exact HI0.out)) (by (with_reducible repeat (first | apply Kd.R_alloc | apply Kd.R_drewN | apply Kd.R_drew)); exact (Q_HO116 h0_)) (by decide)) hk (fun _ h => h.2)) (fun _ h => h.1)) (fun _ h_ => by first | trivial | exact h_ | exact h_.1))
         have z_HO122 := fun (h0_ : b 14 = true) => (show Kd.R (Kd.int .i64) 3 w23 w.heap.size (fun _ => True) v121 y120 from by first | exact (Kd.R_mono (Kd.R_keep (IsS115.apart (show IsS115 w0 _ g s0_0 t111 from by repeat (first | (with_reducible first | exact HI0.out | apply IsS115.alloc | apply IsS115.drewN | apply IsS115.drew | apply IsS115.set_1 | refine IsS115.far ?_ NB0_107.out _) | exact HI0.out)) (by (with_reducible repeat (first | apply Kd.R_alloc | apply Kd.R_drewN | apply Kd.R_drew)); exact (Q_HO122 h0_)) (by decide)) hk (fun _ h => h.2)) (fun _ h => h.1)) | exact Kd.R_mono (Kd.R_mono (Kd.R_keep (IsS115.apart (show IsS115 w0 _ g s0_0 t111 from by repeat (first | (with_reducible first | exact HI0.out | apply IsS115.alloc | apply IsS115.drewN | apply IsS115.drew | apply IsS115.set_1 | refine IsS115.far ?_ NB0_107.out _) | exact HI0.out)) (by (with_reducible repeat (first | apply Kd.R_alloc | apply Kd.R_drewN | apply Kd.R_drew)); exact (Q_HO122 h0_)) (by decide)) hk (fun _ h => h.2)) (fun _ h => h.1)) (fun _ h_ => by first | trivial | exact h_ | exact h_.1))
         have z_HO132 := fun (h0_ : b 25 = true) => (show Kd.R (Kd.int .i64) 3 w23 w.heap.size (fun _ => True) v131 y130 from by first | exact (Kd.R_mono (Kd.R_keep (IsS115.apart (show IsS115 w0 _ g s0_0 t111 from by repeat (first | (with_reducible first | exact HI0.out | apply IsS115.alloc | apply IsS115.drewN | apply IsS115.drew | apply IsS115.set_1 | refine IsS115.far ?_ NB0_107.out _) | exact HI0.out)) (by (with_reducible repeat (first | apply Kd.R_alloc | apply Kd.R_drewN | apply Kd.R_drew)); exact (Q_HO132 h0_)) (by decide)) hk (fun _ h => h.2)) (fun _ h => h.1)) | exact Kd.R_mono (Kd.R_mono (Kd.R_keep (IsS115.apart (show IsS115 w0 _ g s0_0 t111 from by repeat (first | (with_reducible first | exact HI0.out | apply IsS115.alloc | apply IsS115.drewN | apply IsS115.drew | apply IsS115.set_1 | refine IsS115.far ?_ NB0_107.out _) | exact HI0.out)) (by (with_reducible repeat (first | apply Kd.R_alloc | apply Kd.R_drewN | apply Kd.R_drew)); exact (Q_HO132 h0_)) (by decide)) hk (fun _ h => h.2)) (fun _ h => h.1)) (fun _ h_ => by first | trivial | exact h_ | exact h_.1))
         have z_BK138 := fun (h0_ : b 34 = true) (h1_ : b 35 = false) => (show w23.heap[gb138]? = some (.cells #[.int .i64 0, .int .i64 0, .int .i64 0, .int .i64 0, .int .i64 0, .int .i64 0, .int .i64 0, .bool false, .int .i64 0, .int .i64 0] 50 (0, 0)) from by first | exact (KeepBut.blk hk (g' := gb138) (o := .cells #[.int .i64 0, .int .i64 0, .int .i64 0, .int .i64 0, .int .i64 0, .int .i64 0, .int .i64 0, .bool false, .int .i64 0, .int .i64 0] 50 (0, 0)) (by (with_reducible repeat (first | refine blk_drewN ?_ _ | refine blk_drew ?_ | refine blk_alloc ?_ _)); exact (Q_BK138 h0_ h1_)) (Q_NB138_0 h0_) (by simp)))
         clear BK107
         clear HK
         clear HB
         clear HI0
         have BK107 := n0_
         have HK := n1_
         have HB := n2_
         have HI0 := n3_
         clear n0_ n1_ n2_ n3_
         (try clear hb)
         (try clear hb2)
         (try clear hk)
         (try clear hi)
         refine hK.out _ _ ⟨v115, adz_v115, v121, adz_v121, v131, adz_v131, gb138, m12_, m17_, m28_, m34_, (by rw [ha.out]; exact putSel_upk 4 hb_ rfl rfl rfl), (by (with_reducible repeat (first | refine blk_drewN ?_ _ | refine blk_drew ?_ | refine blk_alloc ?_ _)); exact BK107.out), fun h0_ => absurd ((hon 1 (by kernel_rfl)).symm.trans h0_) (by decide), (by repeat (first | (with_reducible first | exact HK.out | apply KeepBut.set_ | apply keep_drewN | apply keep_drew | apply keep_alloc | refine keep_far ?_ GW107.out _) | exact HK.out)), (by repeat (first | (with_reducible first | exact HB.out | apply below_alloc | apply pw_below_drewN | apply below_drew1 | refine below_set ?_ (IsS115.ge HI0.out) | refine below_set ?_ GE107.out) | exact HB.out)), fun _ h1_ => absurd ((hon 4 (by kernel_rfl)).symm.trans h1_) (by decide), fun _ h1_ => absurd ((up_self b 7).symm.trans h1_) (by decide), fun _ _ => (by repeat (first | (with_reducible first | exact HI0.out | apply IsS115.alloc | apply IsS115.drewN | apply IsS115.drew | apply IsS115.set_1 | refine IsS115.far ?_ NB0_107.out _) | exact HI0.out)), z_HO116, Q_HA_HO116, fun h0_ _ => absurd ((hoff 11 (by kernel_rfl)).symm.trans h0_) (by decide), z_HO122, Q_HA_HO122, fun h0_ _ => absurd ((hoff 16 (by kernel_rfl)).symm.trans h0_) (by decide), fun h0_ _ => absurd ((hoff 20 (by kernel_rfl)).symm.trans h0_) (by decide), fun h0_ _ => absurd ((hoff 23 (by kernel_rfl)).symm.trans h0_) (by decide), z_HO132, Q_HA_HO132, fun h0_ _ => absurd ((hoff 27 (by kernel_rfl)).symm.trans h0_) (by decide), fun h0_ => absurd ((hoff 31 (by kernel_rfl)).symm.trans h0_) (by decide), z_BK138, Q_GW138, Q_GE138, Q_NB0_138, Q_NB138_0, Q_NB107_138, Q_NB138_107, fun h0_ => absurd ((hoff 35 (by kernel_rfl)).symm.trans h0_) (by decide), fun h0_ => absurd ((hoff 12 (by kernel_rfl)).symm.trans h0_) (by decide), fun h0_ => absurd ((hoff 17 (by kernel_rfl)).symm.trans h0_) (by decide), fun h0_ => absurd ((hoff 28 (by kernel_rfl)).symm.trans h0_) (by decide), Q_X34_⟩
        refine steps_cons ?_ ?_
        ·rintro b a w' ⟨v115, adz_v115, v121, adz_v121, v131, adz_v131, gb138, m12_, m17_, m28_, m34_, ha, Q_BK107, Q_HI0, Q_HK, Q_HB, Q_HI0_e1, Q_HI0_e4, Q_HI0_e7, Q_HO116, Q_HA_HO116, Q_HI0_e11, Q_HO122, Q_HA_HO122, Q_HI0_e16, Q_HI0_e20, Q_HI0_e23, Q_HO132, Q_HA_HO132, Q_HI0_e27, Q_HI0_e31, Q_BK138, Q_GW138, Q_GE138, Q_NB0_138, Q_NB138_0, Q_NB107_138, Q_NB138_107, Q_BK138_e35, Q_X12_, Q_X17_, Q_X28_, Q_X34_⟩ hb_ hon hoff
         refine ⟨_, rfl, fun K hK => ?_⟩
         have e11 : a.tmps[11]? = some (.int .i64 t112) := by rw [ha]; exact putSel_on (e := (7, 11, .int .i64 t112)) 4 rfl rfl (hon 7 (by kernel_rfl)) rfl
         replace ha := Aside0.mk ha
         have BK107 := Aside0.mk Q_BK107
         have HK := Aside0.mk Q_HK
         have HB := Aside0.mk Q_HB
         refine value_ (w1 := w') (v := .int .i64 (wrap64 (1 + t112))) (by rfl) rfl ?_ ?_
         ·go_simp
          (try simp only [i64_w])
          try rfl
         refine hK.out _ _ ⟨v115, adz_v115, v121, adz_v121, v131, adz_v131, gb138, m12_, m17_, m28_, m34_, (by rw [ha.out]; exact putSel_upk 5 hb_ rfl rfl rfl), Q_BK107, fun h0_ => absurd ((hon 1 (by kernel_rfl)).symm.trans h0_) (by decide), Q_HK, Q_HB, fun _ h1_ => absurd ((hon 4 (by kernel_rfl)).symm.trans h1_) (by decide), fun _ h1_ => absurd ((hon 7 (by kernel_rfl)).symm.trans h1_) (by decide), Q_HI0_e7, Q_HO116, Q_HA_HO116, Q_HI0_e11, Q_HO122, Q_HA_HO122, Q_HI0_e16, Q_HI0_e20, Q_HI0_e23, Q_HO132, Q_HA_HO132, Q_HI0_e27, Q_HI0_e31, Q_BK138, Q_GW138, Q_GE138, Q_NB0_138, Q_NB138_0, Q_NB107_138, Q_NB138_107, fun h0_ => absurd ((hoff 35 (by kernel_rfl)).symm.trans h0_) (by decide), Q_X12_, Q_X17_, Q_X28_, Q_X34_⟩
        refine steps_cons ?_ ?_
        ·rintro b a w' ⟨v115, adz_v115, v121, adz_v121, v131, adz_v131, gb138, m12_, m17_, m28_, m34_, ha, Q_BK107, Q_HI0, Q_HK, Q_HB, Q_HI0_e1, Q_HI0_e4, Q_HI0_e7, Q_HO116, Q_HA_HO116, Q_HI0_e11, Q_HO122, Q_HA_HO122, Q_HI0_e16, Q_HI0_e20, Q_HI0_e23, Q_HO132, Q_HA_HO132, Q_HI0_e27, Q_HI0_e31, Q_BK138, Q_GW138, Q_GE138, Q_NB0_138, Q_NB138_0, Q_NB107_138, Q_NB138_107, Q_BK138_e35, Q_X12_, Q_X17_, Q_X28_, Q_X34_⟩ hb_ hon hoff
         refine ⟨_, rfl, fun K hK => ?_⟩
         replace ha := Aside0.mk ha
         have BK107 := Aside0.mk Q_BK107
         have HK := Aside0.mk Q_HK
         have HB := Aside0.mk Q_HB
         refine Kd.R_lit_step (Kd.int .i64) _ 3 ?hg (N := 13) ?hd (xs := ([1, 3, 5, 8, 10, 20] : List Int)) (inner := [.int .i64 1, .int .i64 3, .int .i64 5, .int .i64 8, .int .i64 10, .int .i64 20]) (ok := fun _ => True) (okp := fun _ => True) ?hr ?hp (fun _ hk => hk) trivial (Below.refl _ _) (Nat.le_refl _) (by simp) ?_; (case hd => rfl); (case hg => rfl); (case hr => first | (go_simp; done) | (go_simp; rfl)); (case hp => exact (Reps.one (show Kd.M (Kd.int .i64) _ _ _ 1 [.int .i64 1] from rfl) (Reps.one (show Kd.M (Kd.int .i64) _ _ _ 3 [.int .i64 3] from rfl) (Reps.one (show Kd.M (Kd.int .i64) _ _ _ 5 [.int .i64 5] from rfl) (Reps.one (show Kd.M (Kd.int .i64) _ _ _ 8 [.int .i64 8] from rfl) (Reps.one (show Kd.M (Kd.int .i64) _ _ _ 10 [.int .i64 10] from rfl) (Reps.one (show Kd.M (Kd.int .i64) _ _ _ 20 [.int .i64 20] from rfl) (Reps.none _ _))))))))
         intro v115 w20 ho21 hb hg_ hnew_
         clear hg_ hnew_
         (first | rw [← Ny114.out] at ho21 | (simp only [Int.reduceToNat] at ho21; rw [← Ny114.out] at ho21))
         have n0_ := Aside0.mk (Kd.R_lower ho21 (keep_size (w := w) (g := g) (row := none) (by repeat (first | (with_reducible first | exact HK.out | apply KeepBut.set_ | apply keep_drewN | apply keep_drew | apply keep_alloc | refine keep_far ?_ GW107.out _) | exact HK.out))))
         have n2_ := Aside0.mk (blk_below (g := gb107) (o := .cells #[.int .i64 0, .int .i64 0, .int .i64 0, .int .i64 0, .int .i64 0, .int .i64 0, .int .i64 0, .bool false, .int .i64 0, .int .i64 0] 50 (0, 0)) (by (with_reducible repeat (first | refine blk_drewN ?_ _ | refine blk_drew ?_ | refine blk_alloc ?_ _)); exact BK107.out) hb)
         have n3_ := Aside0.mk (KeepBut.trans (by repeat (first | (with_reducible first | exact HK.out | apply KeepBut.set_ | apply keep_drewN | apply keep_drew | apply keep_alloc | refine keep_far ?_ GW107.out _) | exact HK.out)) (KeepBut.of_below hb g none) (.inl rfl))
         have n4_ := Aside0.mk (below_step (by repeat (first | (with_reducible first | exact HB.out | apply below_alloc | apply pw_below_drewN | apply below_drew1 | refine below_set ?_ GE107.out) | exact HB.out)) hb)
         have z_HI0 := fun (h0_ : b 1 = false) => (show IsS115 w0 w20 g s0_0 s0_1 from by first | exact (IsS115.below (by repeat (first | (with_reducible first | exact (Q_HI0 h0_) | apply IsS115.alloc | apply IsS115.drewN | apply IsS115.drew | apply IsS115.set_1 | refine IsS115.far ?_ NB0_107.out _) | exact (Q_HI0 h0_))) hb))
         have z_HI0_e1 := fun (h0_ : b 1 = true) (h1_ : b 4 = false) => (show IsS115 w0 w20 g s0_0 t109 from by first | exact (IsS115.below (by repeat (first | (with_reducible first | exact (Q_HI0_e1 h0_ h1_) | apply IsS115.alloc | apply IsS115.drewN | apply IsS115.drew | apply IsS115.set_1 | refine IsS115.far ?_ NB0_107.out _) | exact (Q_HI0_e1 h0_ h1_))) hb))
         have z_HI0_e4 := fun (h0_ : b 4 = true) (h1_ : b 7 = false) => (show IsS115 w0 w20 g s0_0 t111 from by first | exact (IsS115.below (by repeat (first | (with_reducible first | exact (Q_HI0_e4 h0_ h1_) | apply IsS115.alloc | apply IsS115.drewN | apply IsS115.drew | apply IsS115.set_1 | refine IsS115.far ?_ NB0_107.out _) | exact (Q_HI0_e4 h0_ h1_))) hb))
         have z_HI0_e7 := fun (h0_ : b 7 = true) (h1_ : b 11 = false) => (show IsS115 w0 w20 g s0_0 t113 from by first | exact (IsS115.below (by repeat (first | (with_reducible first | exact (Q_HI0_e7 h0_ h1_) | apply IsS115.alloc | apply IsS115.drewN | apply IsS115.drew | apply IsS115.set_1 | refine IsS115.far ?_ NB0_107.out _) | exact (Q_HI0_e7 h0_ h1_))) hb))
         have z_HI0_e11 := fun (h0_ : b 11 = true) (h1_ : b 16 = false) => (show IsS115 w0 w20 g s0_0 t118 from by first | exact (IsS115.below (by repeat (first | (with_reducible first | exact (Q_HI0_e11 h0_ h1_) | apply IsS115.alloc | apply IsS115.drewN | apply IsS115.drew | apply IsS115.set_1 | refine IsS115.far ?_ NB0_107.out _) | exact (Q_HI0_e11 h0_ h1_))) hb))
         have z_HO122 := fun (h0_ : b 14 = true) => (show Kd.R (Kd.int .i64) 3 w20 w.heap.size (fun _ => True) v121 y120 from by first | exact (Kd.R_elder' (by (with_reducible repeat (first | apply Kd.R_alloc | apply Kd.R_drewN | apply Kd.R_drew)); exact (Q_HO122 h0_)) (Kd.R_base ho21) hb) | exact Kd.R_mono (Kd.R_elder' (by (with_reducible repeat (first | apply Kd.R_alloc | apply Kd.R_drewN | apply Kd.R_drew)); exact (Q_HO122 h0_)) (Kd.R_base ho21) hb) (fun _ h_ => by first | trivial | exact h_ | exact h_.1))
         have z_HI0_e16 := fun (h0_ : b 16 = true) (h1_ : b 20 = false) => (show IsS115 w0 w20 g s0_0 t124 from by first | exact (IsS115.below (by repeat (first | (with_reducible first | exact (Q_HI0_e16 h0_ h1_) | apply IsS115.alloc | apply IsS115.drewN | apply IsS115.drew | apply IsS115.set_1 | refine IsS115.far ?_ NB0_107.out _) | exact (Q_HI0_e16 h0_ h1_))) hb))
         have z_HI0_e20 := fun (h0_ : b 20 = true) (h1_ : b 23 = false) => (show IsS115 w0 w20 g s0_0 t127 from by first | exact (IsS115.below (by repeat (first | (with_reducible first | exact (Q_HI0_e20 h0_ h1_) | apply IsS115.alloc | apply IsS115.drewN | apply IsS115.drew | apply IsS115.set_1 | refine IsS115.far ?_ NB0_107.out _) | exact (Q_HI0_e20 h0_ h1_))) hb))
         have z_HI0_e23 := fun (h0_ : b 23 = true) (h1_ : b 27 = false) => (show IsS115 w0 w20 g s0_0 t129 from by first | exact (IsS115.below (by repeat (first | (with_reducible first | exact (Q_HI0_e23 h0_ h1_) | apply IsS115.alloc | apply IsS115.drewN | apply IsS115.drew | apply IsS115.set_1 | refine IsS115.far ?_ NB0_107.out _) | exact (Q_HI0_e23 h0_ h1_))) hb))
         have z_HO132 := fun (h0_ : b 25 = true) => (show Kd.R (Kd.int .i64) 3 w20 w.heap.size (fun _ => True) v131 y130 from by first | exact (Kd.R_elder' (by (with_reducible repeat (first | apply Kd.R_alloc | apply Kd.R_drewN | apply Kd.R_drew)); exact (Q_HO132 h0_)) (Kd.R_base ho21) hb) | exact Kd.R_mono (Kd.R_elder' (by (with_reducible repeat (first | apply Kd.R_alloc | apply Kd.R_drewN | apply Kd.R_drew)); exact (Q_HO132 h0_)) (Kd.R_base ho21) hb) (fun _ h_ => by first | trivial | exact h_ | exact h_.1))
         have z_HI0_e27 := fun (h0_ : b 27 = true) (h1_ : b 31 = false) => (show IsS115 w0 w20 g s0_0 t134 from by first | exact (IsS115.below (by repeat (first | (with_reducible first | exact (Q_HI0_e27 h0_ h1_) | apply IsS115.alloc | apply IsS115.drewN | apply IsS115.drew | apply IsS115.set_1 | refine IsS115.far ?_ NB0_107.out _) | exact (Q_HI0_e27 h0_ h1_))) hb))
         have z_HI0_e31 := fun (h0_ : b 31 = true) => (show IsS115 w0 w20 g s0_0 t137 from by first | exact (IsS115.below (by repeat (first | (with_reducible first | exact (Q_HI0_e31 h0_) | apply IsS115.alloc | apply IsS115.drewN | apply IsS115.drew | apply IsS115.set_1 | refine IsS115.far ?_ NB0_107.out _) | exact (Q_HI0_e31 h0_))) hb))
         have z_BK138 := fun (h0_ : b 34 = true) (h1_ : b 35 = false) => (show w20.heap[gb138]? = some (.cells #[.int .i64 0, .int .i64 0, .int .i64 0, .int .i64 0, .int .i64 0, .int .i64 0, .int .i64 0, .bool false, .int .i64 0, .int .i64 0] 50 (0, 0)) from by first | exact (blk_below (g := gb138) (o := .cells #[.int .i64 0, .int .i64 0, .int .i64 0, .int .i64 0, .int .i64 0, .int .i64 0, .int .i64 0, .bool false, .int .i64 0, .int .i64 0] 50 (0, 0)) (by (with_reducible repeat (first | refine blk_drewN ?_ _ | refine blk_drew ?_ | refine blk_alloc ?_ _)); exact (Q_BK138 h0_ h1_)) hb))
         clear BK107
         clear HK
         clear HB
         have HO116 := n0_
         have BK107 := n2_
         have HK := n3_
         have HB := n4_
         clear n0_ n2_ n3_ n4_
         clear hb ho21
         obtain ⟨Ao22, co22, eo22⟩ := Kd.R_slice HO116.out
         subst eo22
         obtain ⟨ado22, fo22, _⟩ := Kd.at_int (Kd.R_reads' HO116.out).2.2 0 (by decide) (by rw [Ny114.out]; simp)
         cases fo22
         refine hK.out _ _ ⟨.slice (some ado22) y114.length co22, ado22, v121, adz_v121, v131, adz_v131, gb138, m12_, m17_, m28_, m34_, (by rw [ha.out]; exact putSel_upk 6 hb_ rfl rfl rfl), (by (with_reducible repeat (first | refine blk_drewN ?_ _ | refine blk_drew ?_ | refine blk_alloc ?_ _)); exact BK107.out), z_HI0, (by repeat (first | (with_reducible first | exact HK.out | apply KeepBut.set_ | apply keep_drewN | apply keep_drew | apply keep_alloc | refine keep_far ?_ GW107.out _) | exact HK.out)), (by repeat (first | (with_reducible first | exact HB.out | apply below_alloc | apply pw_below_drewN | apply below_drew1 | refine below_set ?_ GE107.out) | exact HB.out)), z_HI0_e1, z_HI0_e4, z_HI0_e7, fun _ => (by (with_reducible repeat (first | apply Kd.R_alloc | apply Kd.R_drewN | apply Kd.R_drew)); exact HO116.out), fun _ => ⟨_, rfl⟩, z_HI0_e11, z_HO122, Q_HA_HO122, z_HI0_e16, z_HI0_e20, z_HI0_e23, z_HO132, Q_HA_HO132, z_HI0_e27, z_HI0_e31, z_BK138, Q_GW138, Q_GE138, Q_NB0_138, Q_NB138_0, Q_NB107_138, Q_NB138_107, fun h0_ => absurd ((hoff 35 (by kernel_rfl)).symm.trans h0_) (by decide), fun h0_ => absurd ((hoff 12 (by kernel_rfl)).symm.trans h0_) (by decide), Q_X17_, Q_X28_, Q_X34_⟩
        refine steps_cons ?_ ?_
        ·rintro b a w' ⟨v115, adz_v115, v121, adz_v121, v131, adz_v131, gb138, m12_, m17_, m28_, m34_, ha, Q_BK107, Q_HI0, Q_HK, Q_HB, Q_HI0_e1, Q_HI0_e4, Q_HI0_e7, Q_HO116, Q_HA_HO116, Q_HI0_e11, Q_HO122, Q_HA_HO122, Q_HI0_e16, Q_HI0_e20, Q_HI0_e23, Q_HO132, Q_HA_HO132, Q_HI0_e27, Q_HI0_e31, Q_BK138, Q_GW138, Q_GE138, Q_NB0_138, Q_NB138_0, Q_NB107_138, Q_NB138_107, Q_BK138_e35, Q_X12_, Q_X17_, Q_X28_, Q_X34_⟩ hb_ hon hoff
         refine ⟨_, rfl, fun K hK => ?_⟩
         have e14 : a.tmps[14]? = some (.pointer (some ⟨g, 0, none⟩)) := by rw [ha]; exact (putSel_off rfl).trans rfl
         replace ha := Aside0.mk ha
         have BK107 := Aside0.mk Q_BK107
         have HK := Aside0.mk Q_HK
         have HB := Aside0.mk Q_HB
         have HI0 := Aside0.mk (Q_HI0_e7 (hon 7 (by kernel_rfl)) hb_)
         refine goes_ Try.func74 (by kernel_rfl) rfl #[.pointer (some ⟨g, 0, none⟩), .int .i64 6] (by rfl) rfl rfl (by first | (simp only [List.map_toArray, List.map_cons, List.map_nil, Act.eval, Array.getD_eq_getD_getElem?, Option.getD_some, e14]; done) | (simp only [List.map_toArray, List.map_cons, List.map_nil, Act.eval, Array.getD_eq_getD_getElem?, Option.getD_some, e14]; rfl)) ?_
         with_reducible refine (spec_l20Rd_pick.calls k g s0_0 t113 6 t117 t118 w0 _ ?side1 ?side2 A5.out).mono ?_
         (case side1 => repeat (first | (with_reducible first | exact HI0.out | apply IsS115.alloc | apply IsS115.drewN | apply IsS115.drew | apply IsS115.set_1 | refine IsS115.far ?_ NB0_107.out _) | exact HI0.out))
         (case side2 => repeat (first | (with_reducible first | exact HB.out | apply below_alloc | apply pw_below_drewN | apply below_drew1 | refine below_set ?_ (IsS115.ge HI0.out) | refine below_set ?_ GE107.out) | exact HB.out))
         rintro e w24 ⟨rfl, hi, hb, hk⟩
         refine ⟨_, rfl, ?_⟩
         have n0_ := Aside0.mk (KeepBut.blk hk (g' := gb107) (o := .cells #[.int .i64 0, .int .i64 0, .int .i64 0, .int .i64 0, .int .i64 0, .int .i64 0, .int .i64 0, .bool false, .int .i64 0, .int .i64 0] 50 (0, 0)) (by (with_reducible repeat (first | refine blk_drewN ?_ _ | refine blk_drew ?_ | refine blk_alloc ?_ _)); exact BK107.out) NB107_0.out (by simp))
         have n1_ := Aside0.mk (KeepBut.trans (by repeat (first | (with_reducible first | exact HK.out | apply KeepBut.set_ | apply keep_drewN | apply keep_drew | apply keep_alloc | refine keep_far ?_ GW107.out _) | exact HK.out)) hk (.inl rfl))
         have n2_ := Aside0.mk (hb)
         have n3_ := Aside0.mk (hi)
         have z_HO116 := fun (h0_ : b 9 = true) => (show Kd.R (Kd.int .i64) 3 w24 w.heap.size (fun _ => True) v115 y114 from by first | exact (Kd.R_mono (Kd.R_keep (IsS115.apart (show IsS115 w0 _ g s0_0 t113 from by repeat (first | (with_reducible first | exact HI0.out | apply IsS115.alloc | apply IsS115.drewN | apply IsS115.drew | apply IsS115.set_1 | refine IsS115.far ?_ NB0_107.out _) | exact HI0.out)) (by (with_reducible repeat (first | apply Kd.R_alloc | apply Kd.R_drewN | apply Kd.R_drew)); exact (Q_HO116 h0_)) (by decide)) hk (fun _ h => h.2)) (fun _ h => h.1)) | exact Kd.R_mono (Kd.R_mono (Kd.R_keep (IsS115.apart (show IsS115 w0 _ g s0_0 t113 from by repeat (first | (with_reducible first | exact HI0.out | apply IsS115.alloc | apply IsS115.drewN | apply IsS115.drew | apply IsS115.set_1 | refine IsS115.far ?_ NB0_107.out _) | exact HI0.out)) (by (with_reducible repeat (first | apply Kd.R_alloc | apply Kd.R_drewN | apply Kd.R_drew)); exact (Q_HO116 h0_)) (by decide)) hk (fun _ h => h.2)) (fun _ h => h.1)) (fun _ h_ => by first | trivial | exact h_ | exact h_.1))
         have z_HO122 := fun (h0_ : b 14 = true) => (show Kd.R (Kd.int .i64) 3 w24 w.heap.size (fun _ => True) v121 y120 from by first | exact (Kd.R_mono (Kd.R_keep (IsS115.apart (show IsS115 w0 _ g s0_0 t113 from by repeat (first | (with_reducible first | exact HI0.out | apply IsS115.alloc | apply IsS115.drewN | apply IsS115.drew | apply IsS115.set_1 | refine IsS115.far ?_ NB0_107.out _) | exact HI0.out)) (by (with_reducible repeat (first | apply Kd.R_alloc | apply Kd.R_drewN | apply Kd.R_drew)); exact (Q_HO122 h0_)) (by decide)) hk (fun _ h => h.2)) (fun _ h => h.1)) | exact Kd.R_mono (Kd.R_mono (Kd.R_keep (IsS115.apart (show IsS115 w0 _ g s0_0 t113 from by repeat (first | (with_reducible first | exact HI0.out | apply IsS115.alloc | apply IsS115.drewN | apply IsS115.drew | apply IsS115.set_1 | refine IsS115.far ?_ NB0_107.out _) | exact HI0.out)) (by (with_reducible repeat (first | apply Kd.R_alloc | apply Kd.R_drewN | apply Kd.R_drew)); exact (Q_HO122 h0_)) (by decide)) hk (fun _ h => h.2)) (fun _ h => h.1)) (fun _ h_ => by first | trivial | exact h_ | exact h_.1))
         have z_HO132 := fun (h0_ : b 25 = true) => (show Kd.R (Kd.int .i64) 3 w24 w.heap.size (fun _ => True) v131 y130 from by first | exact (Kd.R_mono (Kd.R_keep (IsS115.apart (show IsS115 w0 _ g s0_0 t113 from by repeat (first | (with_reducible first | exact HI0.out | apply IsS115.alloc | apply IsS115.drewN | apply IsS115.drew | apply IsS115.set_1 | refine IsS115.far ?_ NB0_107.out _) | exact HI0.out)) (by (with_reducible repeat (first | apply Kd.R_alloc | apply Kd.R_drewN | apply Kd.R_drew)); exact (Q_HO132 h0_)) (by decide)) hk (fun _ h => h.2)) (fun _ h => h.1)) | exact Kd.R_mono (Kd.R_mono (Kd.R_keep (IsS115.apart (show IsS115 w0 _ g s0_0 t113 from by repeat (first | (with_reducible first | exact HI0.out | apply IsS115.alloc | apply IsS115.drewN | apply IsS115.drew | apply IsS115.set_1 | refine IsS115.far ?_ NB0_107.out _) | exact HI0.out)) (by (with_reducible repeat (first | apply Kd.R_alloc | apply Kd.R_drewN | apply Kd.R_drew)); exact (Q_HO132 h0_)) (by decide)) hk (fun _ h => h.2)) (fun _ h => h.1)) (fun _ h_ => by first | trivial | exact h_ | exact h_.1))
         have z_BK138 := fun (h0_ : b 34 = true) (h1_ : b 35 = false) => (show w24.heap[gb138]? = some (.cells #[.int .i64 0, .int .i64 0, .int .i64 0, .int .i64 0, .int .i64 0, .int .i64 0, .int .i64 0, .bool false, .int .i64 0, .int .i64 0] 50 (0, 0)) from by first | exact (KeepBut.blk hk (g' := gb138) (o := .cells #[.int .i64 0, .int .i64 0, .int .i64 0, .int .i64 0, .int .i64 0, .int .i64 0, .int .i64 0, .bool false, .int .i64 0, .int .i64 0] 50 (0, 0)) (by (with_reducible repeat (first | refine blk_drewN ?_ _ | refine blk_drew ?_ | refine blk_alloc ?_ _)); exact (Q_BK138 h0_ h1_)) (Q_NB138_0 h0_) (by simp)))
         clear BK107
         clear HK
         clear HB
         clear HI0
         have BK107 := n0_
         have HK := n1_
         have HB := n2_
         have HI0 := n3_
         clear n0_ n1_ n2_ n3_
         (try clear hb)
         (try clear hb2)
         (try clear hk)
         (try clear hi)
         refine hK.out _ _ ⟨v115, adz_v115, v121, adz_v121, v131, adz_v131, gb138, m12_, m17_, m28_, m34_, (by rw [ha.out]; exact putSel_upk 7 hb_ rfl rfl rfl), (by (with_reducible repeat (first | refine blk_drewN ?_ _ | refine blk_drew ?_ | refine blk_alloc ?_ _)); exact BK107.out), fun h0_ => absurd ((hon 1 (by kernel_rfl)).symm.trans h0_) (by decide), (by repeat (first | (with_reducible first | exact HK.out | apply KeepBut.set_ | apply keep_drewN | apply keep_drew | apply keep_alloc | refine keep_far ?_ GW107.out _) | exact HK.out)), (by repeat (first | (with_reducible first | exact HB.out | apply below_alloc | apply pw_below_drewN | apply below_drew1 | refine below_set ?_ (IsS115.ge HI0.out) | refine below_set ?_ GE107.out) | exact HB.out)), fun _ h1_ => absurd ((hon 4 (by kernel_rfl)).symm.trans h1_) (by decide), fun _ h1_ => absurd ((hon 7 (by kernel_rfl)).symm.trans h1_) (by decide), fun _ h1_ => absurd ((up_self b 11).symm.trans h1_) (by decide), z_HO116, Q_HA_HO116, fun _ _ => (by repeat (first | (with_reducible first | exact HI0.out | apply IsS115.alloc | apply IsS115.drewN | apply IsS115.drew | apply IsS115.set_1 | refine IsS115.far ?_ NB0_107.out _) | exact HI0.out)), z_HO122, Q_HA_HO122, fun h0_ _ => absurd ((hoff 16 (by kernel_rfl)).symm.trans h0_) (by decide), fun h0_ _ => absurd ((hoff 20 (by kernel_rfl)).symm.trans h0_) (by decide), fun h0_ _ => absurd ((hoff 23 (by kernel_rfl)).symm.trans h0_) (by decide), z_HO132, Q_HA_HO132, fun h0_ _ => absurd ((hoff 27 (by kernel_rfl)).symm.trans h0_) (by decide), fun h0_ => absurd ((hoff 31 (by kernel_rfl)).symm.trans h0_) (by decide), z_BK138, Q_GW138, Q_GE138, Q_NB0_138, Q_NB138_0, Q_NB107_138, Q_NB138_107, fun h0_ => absurd ((hoff 35 (by kernel_rfl)).symm.trans h0_) (by decide), fun h0_ => absurd ((hoff 12 (by kernel_rfl)).symm.trans h0_) (by decide), fun h0_ => absurd ((hoff 17 (by kernel_rfl)).symm.trans h0_) (by decide), fun h0_ => absurd ((hoff 28 (by kernel_rfl)).symm.trans h0_) (by decide), Q_X34_⟩
        refine steps_cons ?_ ?_
        ·rintro b a w' ⟨v115, adz_v115, v121, adz_v121, v131, adz_v131, gb138, m12_, m17_, m28_, m34_, ha, Q_BK107, Q_HI0, Q_HK, Q_HB, Q_HI0_e1, Q_HI0_e4, Q_HI0_e7, Q_HO116, Q_HA_HO116, Q_HI0_e11, Q_HO122, Q_HA_HO122, Q_HI0_e16, Q_HI0_e20, Q_HI0_e23, Q_HO132, Q_HA_HO132, Q_HI0_e27, Q_HI0_e31, Q_BK138, Q_GW138, Q_GE138, Q_NB0_138, Q_NB138_0, Q_NB107_138, Q_NB138_107, Q_BK138_e35, Q_X12_, Q_X17_, Q_X28_, Q_X34_⟩ hb_ hon hoff
         refine ⟨_, rfl, fun K hK => ?_⟩
         have e13 : a.tmps[13]? = some (v115) := by rw [ha]; exact putSel_on (e := (9, 13, v115)) 6 rfl rfl (hon 9 (by kernel_rfl)) rfl
         have e15 : a.tmps[15]? = some (.int .i64 t117) := by rw [ha]; exact putSel_on (e := (11, 15, .int .i64 t117)) 7 rfl rfl (hon 11 (by kernel_rfl)) rfl
         replace ha := Aside0.mk ha
         have BK107 := Aside0.mk Q_BK107
         have HK := Aside0.mk Q_HK
         have HB := Aside0.mk Q_HB
         have HO116 := Aside0.mk (Q_HO116 (hon 9 (by kernel_rfl)))
         have HA_HO116 := Aside0.mk (Q_HA_HO116 (hon 9 (by kernel_rfl)))
         obtain ⟨c_, hv_⟩ := HA_HO116.out
         rw [hv_] at e13
         refine value_ (w1 := w') (v := .pointer (some (adz_v115.add (t117).toNat))) (by rfl) rfl ?_ ?_
         ·go_simp
          (try simp only [i64_w])
          try rfl
         refine hK.out _ _ ⟨v115, adz_v115, v121, adz_v121, v131, adz_v131, gb138, (.pointer (some (adz_v115.add (t117).toNat))), m17_, m28_, m34_, (by rw [ha.out]; exact putSel_upk 8 hb_ rfl rfl rfl), Q_BK107, fun h0_ => absurd ((hon 1 (by kernel_rfl)).symm.trans h0_) (by decide), Q_HK, Q_HB, fun _ h1_ => absurd ((hon 4 (by kernel_rfl)).symm.trans h1_) (by decide), fun _ h1_ => absurd ((hon 7 (by kernel_rfl)).symm.trans h1_) (by decide), fun _ h1_ => absurd ((hon 11 (by kernel_rfl)).symm.trans h1_) (by decide), Q_HO116, Q_HA_HO116, Q_HI0_e11, Q_HO122, Q_HA_HO122, Q_HI0_e16, Q_HI0_e20, Q_HI0_e23, Q_HO132, Q_HA_HO132, Q_HI0_e27, Q_HI0_e31, Q_BK138, Q_GW138, Q_GE138, Q_NB0_138, Q_NB138_0, Q_NB107_138, Q_NB138_107, fun h0_ => absurd ((hoff 35 (by kernel_rfl)).symm.trans h0_) (by decide), fun _ => rfl, Q_X17_, Q_X28_, Q_X34_⟩
        refine steps_cons ?_ ?_
        ·rintro b a w' ⟨v115, adz_v115, v121, adz_v121, v131, adz_v131, gb138, m12_, m17_, m28_, m34_, ha, Q_BK107, Q_HI0, Q_HK, Q_HB, Q_HI0_e1, Q_HI0_e4, Q_HI0_e7, Q_HO116, Q_HA_HO116, Q_HI0_e11, Q_HO122, Q_HA_HO122, Q_HI0_e16, Q_HI0_e20, Q_HI0_e23, Q_HO132, Q_HA_HO132, Q_HI0_e27, Q_HI0_e31, Q_BK138, Q_GW138, Q_GE138, Q_NB0_138, Q_NB138_0, Q_NB107_138, Q_NB138_107, Q_BK138_e35, Q_X12_, Q_X17_, Q_X28_, Q_X34_⟩ hb_ hon hoff
         refine ⟨_, rfl, fun K hK => ?_⟩
         have e16 : a.tmps[16]? = some (m12_) := by rw [ha]; exact putSel_on (e := (12, 16, m12_)) 8 rfl rfl (hon 12 (by kernel_rfl)) rfl
         rw [Q_X12_ (hon 12 (by kernel_rfl))] at e16
         replace ha := Aside0.mk ha
         have BK107 := Aside0.mk Q_BK107
         have HK := Aside0.mk Q_HK
         have HB := Aside0.mk Q_HB
         have HO116 := Aside0.mk (Q_HO116 (hon 9 (by kernel_rfl)))
         have HA_HO116 := Aside0.mk (Q_HA_HO116 (hon 9 (by kernel_rfl)))
         obtain ⟨c_, hv_⟩ := HA_HO116.out
         have hF_ := HO116.out
         rw [hv_] at hF_
         obtain ⟨ad_, ea_, hx_⟩ := Kd.at_int (Kd.R_reads' hF_).2.2 t117 (of_eq_true pi119) (of_eq_true qi119)
         cases ea_
         refine value_ (w1 := w') (v := .int .i64 (rd y114 t117)) (by rfl) rfl ?_ ?_
         ·go_simp
          (try simp only [i64_w])
          try rfl
         refine hK.out _ _ ⟨v115, adz_v115, v121, adz_v121, v131, adz_v131, gb138, m12_, m17_, m28_, m34_, (by rw [ha.out]; exact putSel_upk 9 hb_ rfl rfl rfl), Q_BK107, fun h0_ => absurd ((hon 1 (by kernel_rfl)).symm.trans h0_) (by decide), Q_HK, Q_HB, fun _ h1_ => absurd ((hon 4 (by kernel_rfl)).symm.trans h1_) (by decide), fun _ h1_ => absurd ((hon 7 (by kernel_rfl)).symm.trans h1_) (by decide), fun _ h1_ => absurd ((hon 11 (by kernel_rfl)).symm.trans h1_) (by decide), Q_HO116, Q_HA_HO116, Q_HI0_e11, Q_HO122, Q_HA_HO122, Q_HI0_e16, Q_HI0_e20, Q_HI0_e23, Q_HO132, Q_HA_HO132, Q_HI0_e27, Q_HI0_e31, Q_BK138, Q_GW138, Q_GE138, Q_NB0_138, Q_NB138_0, Q_NB107_138, Q_NB138_107, fun h0_ => absurd ((hoff 35 (by kernel_rfl)).symm.trans h0_) (by decide), Q_X12_, Q_X17_, Q_X28_, Q_X34_⟩
        refine steps_cons ?_ ?_
        ·rintro b a w' ⟨v115, adz_v115, v121, adz_v121, v131, adz_v131, gb138, m12_, m17_, m28_, m34_, ha, Q_BK107, Q_HI0, Q_HK, Q_HB, Q_HI0_e1, Q_HI0_e4, Q_HI0_e7, Q_HO116, Q_HA_HO116, Q_HI0_e11, Q_HO122, Q_HA_HO122, Q_HI0_e16, Q_HI0_e20, Q_HI0_e23, Q_HO132, Q_HA_HO132, Q_HI0_e27, Q_HI0_e31, Q_BK138, Q_GW138, Q_GE138, Q_NB0_138, Q_NB138_0, Q_NB107_138, Q_NB138_107, Q_BK138_e35, Q_X12_, Q_X17_, Q_X28_, Q_X34_⟩ hb_ hon hoff
         refine ⟨_, rfl, fun K hK => ?_⟩
         replace ha := Aside0.mk ha
         have BK107 := Aside0.mk Q_BK107
         have HK := Aside0.mk Q_HK
         have HB := Aside0.mk Q_HB
         refine Kd.R_lit_step (Kd.int .i64) _ 3 ?hg (N := 18) ?hd (xs := ([0, 2, 5, 12, 20] : List Int)) (inner := [.int .i64 0, .int .i64 2, .int .i64 5, .int .i64 12, .int .i64 20]) (ok := fun _ => True) (okp := fun _ => True) ?hr ?hp (fun _ hk => hk) trivial (Below.refl _ _) (Nat.le_refl _) (by simp) ?_; (case hd => rfl); (case hg => rfl); (case hr => first | (go_simp; done) | (go_simp; rfl)); (case hp => exact (Reps.one (show Kd.M (Kd.int .i64) _ _ _ 0 [.int .i64 0] from rfl) (Reps.one (show Kd.M (Kd.int .i64) _ _ _ 2 [.int .i64 2] from rfl) (Reps.one (show Kd.M (Kd.int .i64) _ _ _ 5 [.int .i64 5] from rfl) (Reps.one (show Kd.M (Kd.int .i64) _ _ _ 12 [.int .i64 12] from rfl) (Reps.one (show Kd.M (Kd.int .i64) _ _ _ 20 [.int .i64 20] from rfl) (Reps.none _ _)))))))
         intro v121 w20 ho21 hb hg_ hnew_
         clear hg_ hnew_
         (first | rw [← Ny120.out] at ho21 | (simp only [Int.reduceToNat] at ho21; rw [← Ny120.out] at ho21))
         have n0_ := Aside0.mk (Kd.R_lower ho21 (keep_size (w := w) (g := g) (row := none) (by repeat (first | (with_reducible first | exact HK.out | apply KeepBut.set_ | apply keep_drewN | apply keep_drew | apply keep_alloc | refine keep_far ?_ GW107.out _) | exact HK.out))))
         have n2_ := Aside0.mk (blk_below (g := gb107) (o := .cells #[.int .i64 0, .int .i64 0, .int .i64 0, .int .i64 0, .int .i64 0, .int .i64 0, .int .i64 0, .bool false, .int .i64 0, .int .i64 0] 50 (0, 0)) (by (with_reducible repeat (first | refine blk_drewN ?_ _ | refine blk_drew ?_ | refine blk_alloc ?_ _)); exact BK107.out) hb)
         have n3_ := Aside0.mk (KeepBut.trans (by repeat (first | (with_reducible first | exact HK.out | apply KeepBut.set_ | apply keep_drewN | apply keep_drew | apply keep_alloc | refine keep_far ?_ GW107.out _) | exact HK.out)) (KeepBut.of_below hb g none) (.inl rfl))
         have n4_ := Aside0.mk (below_step (by repeat (first | (with_reducible first | exact HB.out | apply below_alloc | apply pw_below_drewN | apply below_drew1 | refine below_set ?_ GE107.out) | exact HB.out)) hb)
         have z_HI0 := fun (h0_ : b 1 = false) => (show IsS115 w0 w20 g s0_0 s0_1 from by first | exact (IsS115.below (by repeat (first | (with_reducible first | exact (Q_HI0 h0_) | apply IsS115.alloc | apply IsS115.drewN | apply IsS115.drew | apply IsS115.set_1 | refine IsS115.far ?_ NB0_107.out _) | exact (Q_HI0 h0_))) hb))
         have z_HI0_e1 := fun (h0_ : b 1 = true) (h1_ : b 4 = false) => (show IsS115 w0 w20 g s0_0 t109 from by first | exact (IsS115.below (by repeat (first | (with_reducible first | exact (Q_HI0_e1 h0_ h1_) | apply IsS115.alloc | apply IsS115.drewN | apply IsS115.drew | apply IsS115.set_1 | refine IsS115.far ?_ NB0_107.out _) | exact (Q_HI0_e1 h0_ h1_))) hb))
         have z_HI0_e4 := fun (h0_ : b 4 = true) (h1_ : b 7 = false) => (show IsS115 w0 w20 g s0_0 t111 from by first | exact (IsS115.below (by repeat (first | (with_reducible first | exact (Q_HI0_e4 h0_ h1_) | apply IsS115.alloc | apply IsS115.drewN | apply IsS115.drew | apply IsS115.set_1 | refine IsS115.far ?_ NB0_107.out _) | exact (Q_HI0_e4 h0_ h1_))) hb))
         have z_HI0_e7 := fun (h0_ : b 7 = true) (h1_ : b 11 = false) => (show IsS115 w0 w20 g s0_0 t113 from by first | exact (IsS115.below (by repeat (first | (with_reducible first | exact (Q_HI0_e7 h0_ h1_) | apply IsS115.alloc | apply IsS115.drewN | apply IsS115.drew | apply IsS115.set_1 | refine IsS115.far ?_ NB0_107.out _) | exact (Q_HI0_e7 h0_ h1_))) hb))
         have z_HO116 := fun (h0_ : b 9 = true) => (show Kd.R (Kd.int .i64) 3 w20 w.heap.size (fun _ => True) v115 y114 from by first | exact (Kd.R_elder' (by (with_reducible repeat (first | apply Kd.R_alloc | apply Kd.R_drewN | apply Kd.R_drew)); exact (Q_HO116 h0_)) (Kd.R_base ho21) hb) | exact Kd.R_mono (Kd.R_elder' (by (with_reducible repeat (first | apply Kd.R_alloc | apply Kd.R_drewN | apply Kd.R_drew)); exact (Q_HO116 h0_)) (Kd.R_base ho21) hb) (fun _ h_ => by first | trivial | exact h_ | exact h_.1))
         have z_HI0_e11 := fun (h0_ : b 11 = true) (h1_ : b 16 = false) => (show IsS115 w0 w20 g s0_0 t118 from by first | exact (IsS115.below (by repeat (first | (with_reducible first | exact (Q_HI0_e11 h0_ h1_) | apply IsS115.alloc | apply IsS115.drewN | apply IsS115.drew | apply IsS115.set_1 | refine IsS115.far ?_ NB0_107.out _) | exact (Q_HI0_e11 h0_ h1_))) hb))
         have z_HI0_e16 := fun (h0_ : b 16 = true) (h1_ : b 20 = false) => (show IsS115 w0 w20 g s0_0 t124 from by first | exact (IsS115.below (by repeat (first | (with_reducible first | exact (Q_HI0_e16 h0_ h1_) | apply IsS115.alloc | apply IsS115.drewN | apply IsS115.drew | apply IsS115.set_1 | refine IsS115.far ?_ NB0_107.out _) | exact (Q_HI0_e16 h0_ h1_))) hb))
         have z_HI0_e20 := fun (h0_ : b 20 = true) (h1_ : b 23 = false) => (show IsS115 w0 w20 g s0_0 t127 from by first | exact (IsS115.below (by repeat (first | (with_reducible first | exact (Q_HI0_e20 h0_ h1_) | apply IsS115.alloc | apply IsS115.drewN | apply IsS115.drew | apply IsS115.set_1 | refine IsS115.far ?_ NB0_107.out _) | exact (Q_HI0_e20 h0_ h1_))) hb))
         have z_HI0_e23 := fun (h0_ : b 23 = true) (h1_ : b 27 = false) => (show IsS115 w0 w20 g s0_0 t129 from by first | exact (IsS115.below (by repeat (first | (with_reducible first | exact (Q_HI0_e23 h0_ h1_) | apply IsS115.alloc | apply IsS115.drewN | apply IsS115.drew | apply IsS115.set_1 | refine IsS115.far ?_ NB0_107.out _) | exact (Q_HI0_e23 h0_ h1_))) hb))
         have z_HO132 := fun (h0_ : b 25 = true) => (show Kd.R (Kd.int .i64) 3 w20 w.heap.size (fun _ => True) v131 y130 from by first | exact (Kd.R_elder' (by (with_reducible repeat (first | apply Kd.R_alloc | apply Kd.R_drewN | apply Kd.R_drew)); exact (Q_HO132 h0_)) (Kd.R_base ho21) hb) | exact Kd.R_mono (Kd.R_elder' (by (with_reducible repeat (first | apply Kd.R_alloc | apply Kd.R_drewN | apply Kd.R_drew)); exact (Q_HO132 h0_)) (Kd.R_base ho21) hb) (fun _ h_ => by first | trivial | exact h_ | exact h_.1))
         have z_HI0_e27 := fun (h0_ : b 27 = true) (h1_ : b 31 = false) => (show IsS115 w0 w20 g s0_0 t134 from by first | exact (IsS115.below (by repeat (first | (with_reducible first | exact (Q_HI0_e27 h0_ h1_) | apply IsS115.alloc | apply IsS115.drewN | apply IsS115.drew | apply IsS115.set_1 | refine IsS115.far ?_ NB0_107.out _) | exact (Q_HI0_e27 h0_ h1_))) hb))
         have z_HI0_e31 := fun (h0_ : b 31 = true) => (show IsS115 w0 w20 g s0_0 t137 from by first | exact (IsS115.below (by repeat (first | (with_reducible first | exact (Q_HI0_e31 h0_) | apply IsS115.alloc | apply IsS115.drewN | apply IsS115.drew | apply IsS115.set_1 | refine IsS115.far ?_ NB0_107.out _) | exact (Q_HI0_e31 h0_))) hb))
         have z_BK138 := fun (h0_ : b 34 = true) (h1_ : b 35 = false) => (show w20.heap[gb138]? = some (.cells #[.int .i64 0, .int .i64 0, .int .i64 0, .int .i64 0, .int .i64 0, .int .i64 0, .int .i64 0, .bool false, .int .i64 0, .int .i64 0] 50 (0, 0)) from by first | exact (blk_below (g := gb138) (o := .cells #[.int .i64 0, .int .i64 0, .int .i64 0, .int .i64 0, .int .i64 0, .int .i64 0, .int .i64 0, .bool false, .int .i64 0, .int .i64 0] 50 (0, 0)) (by (with_reducible repeat (first | refine blk_drewN ?_ _ | refine blk_drew ?_ | refine blk_alloc ?_ _)); exact (Q_BK138 h0_ h1_)) hb))
         clear BK107
         clear HK
         clear HB
         have HO122 := n0_
         have BK107 := n2_
         have HK := n3_
         have HB := n4_
         clear n0_ n2_ n3_ n4_
         clear hb ho21
         obtain ⟨Ao22, co22, eo22⟩ := Kd.R_slice HO122.out
         subst eo22
         obtain ⟨ado22, fo22, _⟩ := Kd.at_int (Kd.R_reads' HO122.out).2.2 0 (by decide) (by rw [Ny120.out]; simp)
         cases fo22
         refine hK.out _ _ ⟨v115, adz_v115, .slice (some ado22) y120.length co22, ado22, v131, adz_v131, gb138, m12_, m17_, m28_, m34_, (by rw [ha.out]; exact putSel_upk 10 hb_ rfl rfl rfl), (by (with_reducible repeat (first | refine blk_drewN ?_ _ | refine blk_drew ?_ | refine blk_alloc ?_ _)); exact BK107.out), z_HI0, (by repeat (first | (with_reducible first | exact HK.out | apply KeepBut.set_ | apply keep_drewN | apply keep_drew | apply keep_alloc | refine keep_far ?_ GW107.out _) | exact HK.out)), (by repeat (first | (with_reducible first | exact HB.out | apply below_alloc | apply pw_below_drewN | apply below_drew1 | refine below_set ?_ GE107.out) | exact HB.out)), z_HI0_e1, z_HI0_e4, z_HI0_e7, z_HO116, Q_HA_HO116, z_HI0_e11, fun _ => (by (with_reducible repeat (first | apply Kd.R_alloc | apply Kd.R_drewN | apply Kd.R_drew)); exact HO122.out), fun _ => ⟨_, rfl⟩, z_HI0_e16, z_HI0_e20, z_HI0_e23, z_HO132, Q_HA_HO132, z_HI0_e27, z_HI0_e31, z_BK138, Q_GW138, Q_GE138, Q_NB0_138, Q_NB138_0, Q_NB107_138, Q_NB138_107, fun h0_ => absurd ((hoff 35 (by kernel_rfl)).symm.trans h0_) (by decide), Q_X12_, fun h0_ => absurd ((hoff 17 (by kernel_rfl)).symm.trans h0_) (by decide), Q_X28_, Q_X34_⟩
        refine steps_cons ?_ ?_
        ·rintro b a w' ⟨v115, adz_v115, v121, adz_v121, v131, adz_v131, gb138, m12_, m17_, m28_, m34_, ha, Q_BK107, Q_HI0, Q_HK, Q_HB, Q_HI0_e1, Q_HI0_e4, Q_HI0_e7, Q_HO116, Q_HA_HO116, Q_HI0_e11, Q_HO122, Q_HA_HO122, Q_HI0_e16, Q_HI0_e20, Q_HI0_e23, Q_HO132, Q_HA_HO132, Q_HI0_e27, Q_HI0_e31, Q_BK138, Q_GW138, Q_GE138, Q_NB0_138, Q_NB138_0, Q_NB107_138, Q_NB138_107, Q_BK138_e35, Q_X12_, Q_X17_, Q_X28_, Q_X34_⟩ hb_ hon hoff
         refine ⟨_, rfl, fun K hK => ?_⟩
         have e19 : a.tmps[19]? = some (.pointer (some ⟨g, 0, none⟩)) := by rw [ha]; exact (putSel_off rfl).trans rfl
         replace ha := Aside0.mk ha
         have BK107 := Aside0.mk Q_BK107
         have HK := Aside0.mk Q_HK
         have HB := Aside0.mk Q_HB
         have HI0 := Aside0.mk (Q_HI0_e11 (hon 11 (by kernel_rfl)) hb_)
         refine goes_ Try.func74 (by kernel_rfl) rfl #[.pointer (some ⟨g, 0, none⟩), .int .i64 5] (by rfl) rfl rfl (by first | (simp only [List.map_toArray, List.map_cons, List.map_nil, Act.eval, Array.getD_eq_getD_getElem?, Option.getD_some, e19]; done) | (simp only [List.map_toArray, List.map_cons, List.map_nil, Act.eval, Array.getD_eq_getD_getElem?, Option.getD_some, e19]; rfl)) ?_
         with_reducible refine (spec_l20Rd_pick.calls k g s0_0 t118 5 t123 t124 w0 _ ?side1 ?side2 A8.out).mono ?_
         (case side1 => repeat (first | (with_reducible first | exact HI0.out | apply IsS115.alloc | apply IsS115.drewN | apply IsS115.drew | apply IsS115.set_1 | refine IsS115.far ?_ NB0_107.out _) | exact HI0.out))
         (case side2 => repeat (first | (with_reducible first | exact HB.out | apply below_alloc | apply pw_below_drewN | apply below_drew1 | refine below_set ?_ (IsS115.ge HI0.out) | refine below_set ?_ GE107.out) | exact HB.out))
         rintro e w25 ⟨rfl, hi, hb, hk⟩
         refine ⟨_, rfl, ?_⟩
         have n0_ := Aside0.mk (KeepBut.blk hk (g' := gb107) (o := .cells #[.int .i64 0, .int .i64 0, .int .i64 0, .int .i64 0, .int .i64 0, .int .i64 0, .int .i64 0, .bool false, .int .i64 0, .int .i64 0] 50 (0, 0)) (by (with_reducible repeat (first | refine blk_drewN ?_ _ | refine blk_drew ?_ | refine blk_alloc ?_ _)); exact BK107.out) NB107_0.out (by simp))
         have n1_ := Aside0.mk (KeepBut.trans (by repeat (first | (with_reducible first | exact HK.out | apply KeepBut.set_ | apply keep_drewN | apply keep_drew | apply keep_alloc | refine keep_far ?_ GW107.out _) | exact HK.out)) hk (.inl rfl))
         have n2_ := Aside0.mk (hb)
         have n3_ := Aside0.mk (hi)
         have z_HO116 := fun (h0_ : b 9 = true) => (show Kd.R (Kd.int .i64) 3 w25 w.heap.size (fun _ => True) v115 y114 from by first | exact (Kd.R_mono (Kd.R_keep (IsS115.apart (show IsS115 w0 _ g s0_0 t118 from by repeat (first | (with_reducible first | exact HI0.out | apply IsS115.alloc | apply IsS115.drewN | apply IsS115.drew | apply IsS115.set_1 | refine IsS115.far ?_ NB0_107.out _) | exact HI0.out)) (by (with_reducible repeat (first | apply Kd.R_alloc | apply Kd.R_drewN | apply Kd.R_drew)); exact (Q_HO116 h0_)) (by decide)) hk (fun _ h => h.2)) (fun _ h => h.1)) | exact Kd.R_mono (Kd.R_mono (Kd.R_keep (IsS115.apart (show IsS115 w0 _ g s0_0 t118 from by repeat (first | (with_reducible first | exact HI0.out | apply IsS115.alloc | apply IsS115.drewN | apply IsS115.drew | apply IsS115.set_1 | refine IsS115.far ?_ NB0_107.out _) | exact HI0.out)) (by (with_reducible repeat (first | apply Kd.R_alloc | apply Kd.R_drewN | apply Kd.R_drew)); exact (Q_HO116 h0_)) (by decide)) hk (fun _ h => h.2)) (fun _ h => h.1)) (fun _ h_ => by first | trivial | exact h_ | exact h_.1))
         have z_HO122 := fun (h0_ : b 14 = true) => (show Kd.R (Kd.int .i64) 3 w25 w.heap.size (fun _ => True) v121 y120 from by first | exact (Kd.R_mono (Kd.R_keep (IsS115.apart (show IsS115 w0 _ g s0_0 t118 from by repeat (first | (with_reducible first | exact HI0.out | apply IsS115.alloc | apply IsS115.drewN | apply IsS115.drew | apply IsS115.set_1 | refine IsS115.far ?_ NB0_107.out _) | exact HI0.out)) (by (with_reducible repeat (first | apply Kd.R_alloc | apply Kd.R_drewN | apply Kd.R_drew)); exact (Q_HO122 h0_)) (by decide)) hk (fun _ h => h.2)) (fun _ h => h.1)) | exact Kd.R_mono (Kd.R_mono (Kd.R_keep (IsS115.apart (show IsS115 w0 _ g s0_0 t118 from by repeat (first | (with_reducible first | exact HI0.out | apply IsS115.alloc | apply IsS115.drewN | apply IsS115.drew | apply IsS115.set_1 | refine IsS115.far ?_ NB0_107.out _) | exact HI0.out)) (by (with_reducible repeat (first | apply Kd.R_alloc | apply Kd.R_drewN | apply Kd.R_drew)); exact (Q_HO122 h0_)) (by decide)) hk (fun _ h => h.2)) (fun _ h => h.1)) (fun _ h_ => by first | trivial | exact h_ | exact h_.1))
         have z_HO132 := fun (h0_ : b 25 = true) => (show Kd.R (Kd.int .i64) 3 w25 w.heap.size (fun _ => True) v131 y130 from by first | exact (Kd.R_mono (Kd.R_keep (IsS115.apart (show IsS115 w0 _ g s0_0 t118 from by repeat (first | (with_reducible first | exact HI0.out | apply IsS115.alloc | apply IsS115.drewN | apply IsS115.drew | apply IsS115.set_1 | refine IsS115.far ?_ NB0_107.out _) | exact HI0.out)) (by (with_reducible repeat (first | apply Kd.R_alloc | apply Kd.R_drewN | apply Kd.R_drew)); exact (Q_HO132 h0_)) (by decide)) hk (fun _ h => h.2)) (fun _ h => h.1)) | exact Kd.R_mono (Kd.R_mono (Kd.R_keep (IsS115.apart (show IsS115 w0 _ g s0_0 t118 from by repeat (first | (with_reducible first | exact HI0.out | apply IsS115.alloc | apply IsS115.drewN | apply IsS115.drew | apply IsS115.set_1 | refine IsS115.far ?_ NB0_107.out _) | exact HI0.out)) (by (with_reducible repeat (first | apply Kd.R_alloc | apply Kd.R_drewN | apply Kd.R_drew)); exact (Q_HO132 h0_)) (by decide)) hk (fun _ h => h.2)) (fun _ h => h.1)) (fun _ h_ => by first | trivial | exact h_ | exact h_.1))
         have z_BK138 := fun (h0_ : b 34 = true) (h1_ : b 35 = false) => (show w25.heap[gb138]? = some (.cells #[.int .i64 0, .int .i64 0, .int .i64 0, .int .i64 0, .int .i64 0, .int .i64 0, .int .i64 0, .bool false, .int .i64 0, .int .i64 0] 50 (0, 0)) from by first | exact (KeepBut.blk hk (g' := gb138) (o := .cells #[.int .i64 0, .int .i64 0, .int .i64 0, .int .i64 0, .int .i64 0, .int .i64 0, .int .i64 0, .bool false, .int .i64 0, .int .i64 0] 50 (0, 0)) (by (with_reducible repeat (first | refine blk_drewN ?_ _ | refine blk_drew ?_ | refine blk_alloc ?_ _)); exact (Q_BK138 h0_ h1_)) (Q_NB138_0 h0_) (by simp)))
         clear BK107
         clear HK
         clear HB
         clear HI0
         have BK107 := n0_
         have HK := n1_
         have HB := n2_
         have HI0 := n3_
         clear n0_ n1_ n2_ n3_
         (try clear hb)
         (try clear hb2)
         (try clear hk)
         (try clear hi)
         refine hK.out _ _ ⟨v115, adz_v115, v121, adz_v121, v131, adz_v131, gb138, m12_, m17_, m28_, m34_, (by rw [ha.out]; exact putSel_upk 11 hb_ rfl rfl rfl), (by (with_reducible repeat (first | refine blk_drewN ?_ _ | refine blk_drew ?_ | refine blk_alloc ?_ _)); exact BK107.out), fun h0_ => absurd ((hon 1 (by kernel_rfl)).symm.trans h0_) (by decide), (by repeat (first | (with_reducible first | exact HK.out | apply KeepBut.set_ | apply keep_drewN | apply keep_drew | apply keep_alloc | refine keep_far ?_ GW107.out _) | exact HK.out)), (by repeat (first | (with_reducible first | exact HB.out | apply below_alloc | apply pw_below_drewN | apply below_drew1 | refine below_set ?_ (IsS115.ge HI0.out) | refine below_set ?_ GE107.out) | exact HB.out)), fun _ h1_ => absurd ((hon 4 (by kernel_rfl)).symm.trans h1_) (by decide), fun _ h1_ => absurd ((hon 7 (by kernel_rfl)).symm.trans h1_) (by decide), fun _ h1_ => absurd ((hon 11 (by kernel_rfl)).symm.trans h1_) (by decide), z_HO116, Q_HA_HO116, fun _ h1_ => absurd ((up_self b 16).symm.trans h1_) (by decide), z_HO122, Q_HA_HO122, fun _ _ => (by repeat (first | (with_reducible first | exact HI0.out | apply IsS115.alloc | apply IsS115.drewN | apply IsS115.drew | apply IsS115.set_1 | refine IsS115.far ?_ NB0_107.out _) | exact HI0.out)), fun h0_ _ => absurd ((hoff 20 (by kernel_rfl)).symm.trans h0_) (by decide), fun h0_ _ => absurd ((hoff 23 (by kernel_rfl)).symm.trans h0_) (by decide), z_HO132, Q_HA_HO132, fun h0_ _ => absurd ((hoff 27 (by kernel_rfl)).symm.trans h0_) (by decide), fun h0_ => absurd ((hoff 31 (by kernel_rfl)).symm.trans h0_) (by decide), z_BK138, Q_GW138, Q_GE138, Q_NB0_138, Q_NB138_0, Q_NB107_138, Q_NB138_107, fun h0_ => absurd ((hoff 35 (by kernel_rfl)).symm.trans h0_) (by decide), Q_X12_, fun h0_ => absurd ((hoff 17 (by kernel_rfl)).symm.trans h0_) (by decide), fun h0_ => absurd ((hoff 28 (by kernel_rfl)).symm.trans h0_) (by decide), Q_X34_⟩
        refine steps_cons ?_ ?_
        ·rintro b a w' ⟨v115, adz_v115, v121, adz_v121, v131, adz_v131, gb138, m12_, m17_, m28_, m34_, ha, Q_BK107, Q_HI0, Q_HK, Q_HB, Q_HI0_e1, Q_HI0_e4, Q_HI0_e7, Q_HO116, Q_HA_HO116, Q_HI0_e11, Q_HO122, Q_HA_HO122, Q_HI0_e16, Q_HI0_e20, Q_HI0_e23, Q_HO132, Q_HA_HO132, Q_HI0_e27, Q_HI0_e31, Q_BK138, Q_GW138, Q_GE138, Q_NB0_138, Q_NB138_0, Q_NB107_138, Q_NB138_107, Q_BK138_e35, Q_X12_, Q_X17_, Q_X28_, Q_X34_⟩ hb_ hon hoff
         refine ⟨_, rfl, fun K hK => ?_⟩
         have e18 : a.tmps[18]? = some (v121) := by rw [ha]; exact putSel_on (e := (14, 18, v121)) 10 rfl rfl (hon 14 (by kernel_rfl)) rfl
         have e20 : a.tmps[20]? = some (.int .i64 t123) := by rw [ha]; exact putSel_on (e := (16, 20, .int .i64 t123)) 11 rfl rfl (hon 16 (by kernel_rfl)) rfl
         replace ha := Aside0.mk ha
         have BK107 := Aside0.mk Q_BK107
         have HK := Aside0.mk Q_HK
         have HB := Aside0.mk Q_HB
         have HO122 := Aside0.mk (Q_HO122 (hon 14 (by kernel_rfl)))
         have HA_HO122 := Aside0.mk (Q_HA_HO122 (hon 14 (by kernel_rfl)))
         obtain ⟨c_, hv_⟩ := HA_HO122.out
         rw [hv_] at e18
         refine value_ (w1 := w') (v := .pointer (some (adz_v121.add (t123).toNat))) (by rfl) rfl ?_ ?_
         ·go_simp
          (try simp only [i64_w])
          try rfl
         refine hK.out _ _ ⟨v115, adz_v115, v121, adz_v121, v131, adz_v131, gb138, m12_, (.pointer (some (adz_v121.add (t123).toNat))), m28_, m34_, (by rw [ha.out]; exact putSel_upk 12 hb_ rfl rfl rfl), Q_BK107, fun h0_ => absurd ((hon 1 (by kernel_rfl)).symm.trans h0_) (by decide), Q_HK, Q_HB, fun _ h1_ => absurd ((hon 4 (by kernel_rfl)).symm.trans h1_) (by decide), fun _ h1_ => absurd ((hon 7 (by kernel_rfl)).symm.trans h1_) (by decide), fun _ h1_ => absurd ((hon 11 (by kernel_rfl)).symm.trans h1_) (by decide), Q_HO116, Q_HA_HO116, fun _ h1_ => absurd ((hon 16 (by kernel_rfl)).symm.trans h1_) (by decide), Q_HO122, Q_HA_HO122, Q_HI0_e16, Q_HI0_e20, Q_HI0_e23, Q_HO132, Q_HA_HO132, Q_HI0_e27, Q_HI0_e31, Q_BK138, Q_GW138, Q_GE138, Q_NB0_138, Q_NB138_0, Q_NB107_138, Q_NB138_107, fun h0_ => absurd ((hoff 35 (by kernel_rfl)).symm.trans h0_) (by decide), Q_X12_, fun _ => rfl, Q_X28_, Q_X34_⟩
        refine steps_cons ?_ ?_
        ·rintro b a w' ⟨v115, adz_v115, v121, adz_v121, v131, adz_v131, gb138, m12_, m17_, m28_, m34_, ha, Q_BK107, Q_HI0, Q_HK, Q_HB, Q_HI0_e1, Q_HI0_e4, Q_HI0_e7, Q_HO116, Q_HA_HO116, Q_HI0_e11, Q_HO122, Q_HA_HO122, Q_HI0_e16, Q_HI0_e20, Q_HI0_e23, Q_HO132, Q_HA_HO132, Q_HI0_e27, Q_HI0_e31, Q_BK138, Q_GW138, Q_GE138, Q_NB0_138, Q_NB138_0, Q_NB107_138, Q_NB138_107, Q_BK138_e35, Q_X12_, Q_X17_, Q_X28_, Q_X34_⟩ hb_ hon hoff
         refine ⟨_, rfl, fun K hK => ?_⟩
         have e21 : a.tmps[21]? = some (m17_) := by rw [ha]; exact putSel_on (e := (17, 21, m17_)) 12 rfl rfl (hon 17 (by kernel_rfl)) rfl
         rw [Q_X17_ (hon 17 (by kernel_rfl))] at e21
         replace ha := Aside0.mk ha
         have BK107 := Aside0.mk Q_BK107
         have HK := Aside0.mk Q_HK
         have HB := Aside0.mk Q_HB
         have HO122 := Aside0.mk (Q_HO122 (hon 14 (by kernel_rfl)))
         have HA_HO122 := Aside0.mk (Q_HA_HO122 (hon 14 (by kernel_rfl)))
         obtain ⟨c_, hv_⟩ := HA_HO122.out
         have hF_ := HO122.out
         rw [hv_] at hF_
         obtain ⟨ad_, ea_, hx_⟩ := Kd.at_int (Kd.R_reads' hF_).2.2 t123 (of_eq_true pi125) (of_eq_true qi125)
         cases ea_
         refine value_ (w1 := w') (v := .int .i64 (rd y120 t123)) (by rfl) rfl ?_ ?_
         ·go_simp
          (try simp only [i64_w])
          try rfl
         refine hK.out _ _ ⟨v115, adz_v115, v121, adz_v121, v131, adz_v131, gb138, m12_, m17_, m28_, m34_, (by rw [ha.out]; exact putSel_upk 13 hb_ rfl rfl rfl), Q_BK107, fun h0_ => absurd ((hon 1 (by kernel_rfl)).symm.trans h0_) (by decide), Q_HK, Q_HB, fun _ h1_ => absurd ((hon 4 (by kernel_rfl)).symm.trans h1_) (by decide), fun _ h1_ => absurd ((hon 7 (by kernel_rfl)).symm.trans h1_) (by decide), fun _ h1_ => absurd ((hon 11 (by kernel_rfl)).symm.trans h1_) (by decide), Q_HO116, Q_HA_HO116, fun _ h1_ => absurd ((hon 16 (by kernel_rfl)).symm.trans h1_) (by decide), Q_HO122, Q_HA_HO122, Q_HI0_e16, Q_HI0_e20, Q_HI0_e23, Q_HO132, Q_HA_HO132, Q_HI0_e27, Q_HI0_e31, Q_BK138, Q_GW138, Q_GE138, Q_NB0_138, Q_NB138_0, Q_NB107_138, Q_NB138_107, fun h0_ => absurd ((hoff 35 (by kernel_rfl)).symm.trans h0_) (by decide), Q_X12_, Q_X17_, Q_X28_, Q_X34_⟩
        refine steps_cons ?_ ?_
        ·rintro b a w' ⟨v115, adz_v115, v121, adz_v121, v131, adz_v131, gb138, m12_, m17_, m28_, m34_, ha, Q_BK107, Q_HI0, Q_HK, Q_HB, Q_HI0_e1, Q_HI0_e4, Q_HI0_e7, Q_HO116, Q_HA_HO116, Q_HI0_e11, Q_HO122, Q_HA_HO122, Q_HI0_e16, Q_HI0_e20, Q_HI0_e23, Q_HO132, Q_HA_HO132, Q_HI0_e27, Q_HI0_e31, Q_BK138, Q_GW138, Q_GE138, Q_NB0_138, Q_NB138_0, Q_NB107_138, Q_NB138_107, Q_BK138_e35, Q_X12_, Q_X17_, Q_X28_, Q_X34_⟩ hb_ hon hoff
         refine ⟨_, rfl, fun K hK => ?_⟩
         have e23 : a.tmps[23]? = some (.pointer (some ⟨g, 0, none⟩)) := by rw [ha]; exact (putSel_off rfl).trans rfl
         replace ha := Aside0.mk ha
         have BK107 := Aside0.mk Q_BK107
         have HK := Aside0.mk Q_HK
         have HB := Aside0.mk Q_HB
         have HI0 := Aside0.mk (Q_HI0_e16 (hon 16 (by kernel_rfl)) hb_)
         refine goes_ Try.func74 (by kernel_rfl) rfl #[.pointer (some ⟨g, 0, none⟩), .int .i64 4] (by rfl) rfl rfl (by first | (simp only [List.map_toArray, List.map_cons, List.map_nil, Act.eval, Array.getD_eq_getD_getElem?, Option.getD_some, e23]; done) | (simp only [List.map_toArray, List.map_cons, List.map_nil, Act.eval, Array.getD_eq_getD_getElem?, Option.getD_some, e23]; rfl)) ?_
         with_reducible refine (spec_l20Rd_pick.calls k g s0_0 t124 4 t126 t127 w0 _ ?side1 ?side2 A11.out).mono ?_
         (case side1 => repeat (first | (with_reducible first | exact HI0.out | apply IsS115.alloc | apply IsS115.drewN | apply IsS115.drew | apply IsS115.set_1 | refine IsS115.far ?_ NB0_107.out _) | exact HI0.out))
         (case side2 => repeat (first | (with_reducible first | exact HB.out | apply below_alloc | apply pw_below_drewN | apply below_drew1 | refine below_set ?_ (IsS115.ge HI0.out) | refine below_set ?_ GE107.out) | exact HB.out))
         rintro e w26 ⟨rfl, hi, hb, hk⟩
         refine ⟨_, rfl, ?_⟩
         have n0_ := Aside0.mk (KeepBut.blk hk (g' := gb107) (o := .cells #[.int .i64 0, .int .i64 0, .int .i64 0, .int .i64 0, .int .i64 0, .int .i64 0, .int .i64 0, .bool false, .int .i64 0, .int .i64 0] 50 (0, 0)) (by (with_reducible repeat (first | refine blk_drewN ?_ _ | refine blk_drew ?_ | refine blk_alloc ?_ _)); exact BK107.out) NB107_0.out (by simp))
         have n1_ := Aside0.mk (KeepBut.trans (by repeat (first | (with_reducible first | exact HK.out | apply KeepBut.set_ | apply keep_drewN | apply keep_drew | apply keep_alloc | refine keep_far ?_ GW107.out _) | exact HK.out)) hk (.inl rfl))
         have n2_ := Aside0.mk (hb)
         have n3_ := Aside0.mk (hi)
         have z_HO116 := fun (h0_ : b 9 = true) => (show Kd.R (Kd.int .i64) 3 w26 w.heap.size (fun _ => True) v115 y114 from by first | exact (Kd.R_mono (Kd.R_keep (IsS115.apart (show IsS115 w0 _ g s0_0 t124 from by repeat (first | (with_reducible first | exact HI0.out | apply IsS115.alloc | apply IsS115.drewN | apply IsS115.drew | apply IsS115.set_1 | refine IsS115.far ?_ NB0_107.out _) | exact HI0.out)) (by (with_reducible repeat (first | apply Kd.R_alloc | apply Kd.R_drewN | apply Kd.R_drew)); exact (Q_HO116 h0_)) (by decide)) hk (fun _ h => h.2)) (fun _ h => h.1)) | exact Kd.R_mono (Kd.R_mono (Kd.R_keep (IsS115.apart (show IsS115 w0 _ g s0_0 t124 from by repeat (first | (with_reducible first | exact HI0.out | apply IsS115.alloc | apply IsS115.drewN | apply IsS115.drew | apply IsS115.set_1 | refine IsS115.far ?_ NB0_107.out _) | exact HI0.out)) (by (with_reducible repeat (first | apply Kd.R_alloc | apply Kd.R_drewN | apply Kd.R_drew)); exact (Q_HO116 h0_)) (by decide)) hk (fun _ h => h.2)) (fun _ h => h.1)) (fun _ h_ => by first | trivial | exact h_ | exact h_.1))
         have z_HO122 := fun (h0_ : b 14 = true) => (show Kd.R (Kd.int .i64) 3 w26 w.heap.size (fun _ => True) v121 y120 from by first | exact (Kd.R_mono (Kd.R_keep (IsS115.apart (show IsS115 w0 _ g s0_0 t124 from by repeat (first | (with_reducible first | exact HI0.out | apply IsS115.alloc | apply IsS115.drewN | apply IsS115.drew | apply IsS115.set_1 | refine IsS115.far ?_ NB0_107.out _) | exact HI0.out)) (by (with_reducible repeat (first | apply Kd.R_alloc | apply Kd.R_drewN | apply Kd.R_drew)); exact (Q_HO122 h0_)) (by decide)) hk (fun _ h => h.2)) (fun _ h => h.1)) | exact Kd.R_mono (Kd.R_mono (Kd.R_keep (IsS115.apart (show IsS115 w0 _ g s0_0 t124 from by repeat (first | (with_reducible first | exact HI0.out | apply IsS115.alloc | apply IsS115.drewN | apply IsS115.drew | apply IsS115.set_1 | refine IsS115.far ?_ NB0_107.out _) | exact HI0.out)) (by (with_reducible repeat (first | apply Kd.R_alloc | apply Kd.R_drewN | apply Kd.R_drew)); exact (Q_HO122 h0_)) (by decide)) hk (fun _ h => h.2)) (fun _ h => h.1)) (fun _ h_ => by first | trivial | exact h_ | exact h_.1))
         have z_HO132 := fun (h0_ : b 25 = true) => (show Kd.R (Kd.int .i64) 3 w26 w.heap.size (fun _ => True) v131 y130 from by first | exact (Kd.R_mono (Kd.R_keep (IsS115.apart (show IsS115 w0 _ g s0_0 t124 from by repeat (first | (with_reducible first | exact HI0.out | apply IsS115.alloc | apply IsS115.drewN | apply IsS115.drew | apply IsS115.set_1 | refine IsS115.far ?_ NB0_107.out _) | exact HI0.out)) (by (with_reducible repeat (first | apply Kd.R_alloc | apply Kd.R_drewN | apply Kd.R_drew)); exact (Q_HO132 h0_)) (by decide)) hk (fun _ h => h.2)) (fun _ h => h.1)) | exact Kd.R_mono (Kd.R_mono (Kd.R_keep (IsS115.apart (show IsS115 w0 _ g s0_0 t124 from by repeat (first | (with_reducible first | exact HI0.out | apply IsS115.alloc | apply IsS115.drewN | apply IsS115.drew | apply IsS115.set_1 | refine IsS115.far ?_ NB0_107.out _) | exact HI0.out)) (by (with_reducible repeat (first | apply Kd.R_alloc | apply Kd.R_drewN | apply Kd.R_drew)); exact (Q_HO132 h0_)) (by decide)) hk (fun _ h => h.2)) (fun _ h => h.1)) (fun _ h_ => by first | trivial | exact h_ | exact h_.1))
         have z_BK138 := fun (h0_ : b 34 = true) (h1_ : b 35 = false) => (show w26.heap[gb138]? = some (.cells #[.int .i64 0, .int .i64 0, .int .i64 0, .int .i64 0, .int .i64 0, .int .i64 0, .int .i64 0, .bool false, .int .i64 0, .int .i64 0] 50 (0, 0)) from by first | exact (KeepBut.blk hk (g' := gb138) (o := .cells #[.int .i64 0, .int .i64 0, .int .i64 0, .int .i64 0, .int .i64 0, .int .i64 0, .int .i64 0, .bool false, .int .i64 0, .int .i64 0] 50 (0, 0)) (by (with_reducible repeat (first | refine blk_drewN ?_ _ | refine blk_drew ?_ | refine blk_alloc ?_ _)); exact (Q_BK138 h0_ h1_)) (Q_NB138_0 h0_) (by simp)))
         clear BK107
         clear HK
         clear HB
         clear HI0
         have BK107 := n0_
         have HK := n1_
         have HB := n2_
         have HI0 := n3_
         clear n0_ n1_ n2_ n3_
         (try clear hb)
         (try clear hb2)
         (try clear hk)
         (try clear hi)
         refine hK.out _ _ ⟨v115, adz_v115, v121, adz_v121, v131, adz_v131, gb138, m12_, m17_, m28_, m34_, (by rw [ha.out]; exact putSel_upk 14 hb_ rfl rfl rfl), (by (with_reducible repeat (first | refine blk_drewN ?_ _ | refine blk_drew ?_ | refine blk_alloc ?_ _)); exact BK107.out), fun h0_ => absurd ((hon 1 (by kernel_rfl)).symm.trans h0_) (by decide), (by repeat (first | (with_reducible first | exact HK.out | apply KeepBut.set_ | apply keep_drewN | apply keep_drew | apply keep_alloc | refine keep_far ?_ GW107.out _) | exact HK.out)), (by repeat (first | (with_reducible first | exact HB.out | apply below_alloc | apply pw_below_drewN | apply below_drew1 | refine below_set ?_ (IsS115.ge HI0.out) | refine below_set ?_ GE107.out) | exact HB.out)), fun _ h1_ => absurd ((hon 4 (by kernel_rfl)).symm.trans h1_) (by decide), fun _ h1_ => absurd ((hon 7 (by kernel_rfl)).symm.trans h1_) (by decide), fun _ h1_ => absurd ((hon 11 (by kernel_rfl)).symm.trans h1_) (by decide), z_HO116, Q_HA_HO116, fun _ h1_ => absurd ((hon 16 (by kernel_rfl)).symm.trans h1_) (by decide), z_HO122, Q_HA_HO122, fun _ h1_ => absurd ((up_self b 20).symm.trans h1_) (by decide), fun _ _ => (by repeat (first | (with_reducible first | exact HI0.out | apply IsS115.alloc | apply IsS115.drewN | apply IsS115.drew | apply IsS115.set_1 | refine IsS115.far ?_ NB0_107.out _) | exact HI0.out)), fun h0_ _ => absurd ((hoff 23 (by kernel_rfl)).symm.trans h0_) (by decide), z_HO132, Q_HA_HO132, fun h0_ _ => absurd ((hoff 27 (by kernel_rfl)).symm.trans h0_) (by decide), fun h0_ => absurd ((hoff 31 (by kernel_rfl)).symm.trans h0_) (by decide), z_BK138, Q_GW138, Q_GE138, Q_NB0_138, Q_NB138_0, Q_NB107_138, Q_NB138_107, fun h0_ => absurd ((hoff 35 (by kernel_rfl)).symm.trans h0_) (by decide), Q_X12_, Q_X17_, fun h0_ => absurd ((hoff 28 (by kernel_rfl)).symm.trans h0_) (by decide), Q_X34_⟩
        refine steps_cons ?_ ?_
        ·rintro b a w' ⟨v115, adz_v115, v121, adz_v121, v131, adz_v131, gb138, m12_, m17_, m28_, m34_, ha, Q_BK107, Q_HI0, Q_HK, Q_HB, Q_HI0_e1, Q_HI0_e4, Q_HI0_e7, Q_HO116, Q_HA_HO116, Q_HI0_e11, Q_HO122, Q_HA_HO122, Q_HI0_e16, Q_HI0_e20, Q_HI0_e23, Q_HO132, Q_HA_HO132, Q_HI0_e27, Q_HI0_e31, Q_BK138, Q_GW138, Q_GE138, Q_NB0_138, Q_NB138_0, Q_NB107_138, Q_NB138_107, Q_BK138_e35, Q_X12_, Q_X17_, Q_X28_, Q_X34_⟩ hb_ hon hoff
         refine ⟨_, rfl, fun K hK => ?_⟩
         have e24 : a.tmps[24]? = some (.int .i64 t126) := by rw [ha]; exact putSel_on (e := (20, 24, .int .i64 t126)) 14 rfl rfl (hon 20 (by kernel_rfl)) rfl
         replace ha := Aside0.mk ha
         have BK107 := Aside0.mk Q_BK107
         have HK := Aside0.mk Q_HK
         have HB := Aside0.mk Q_HB
         refine value_ (w1 := w') (v := .int .i64 (wrap64 (1 + t126))) (by rfl) rfl ?_ ?_
         ·go_simp
          (try simp only [i64_w])
          try rfl
         refine hK.out _ _ ⟨v115, adz_v115, v121, adz_v121, v131, adz_v131, gb138, m12_, m17_, m28_, m34_, (by rw [ha.out]; exact putSel_upk 15 hb_ rfl rfl rfl), Q_BK107, fun h0_ => absurd ((hon 1 (by kernel_rfl)).symm.trans h0_) (by decide), Q_HK, Q_HB, fun _ h1_ => absurd ((hon 4 (by kernel_rfl)).symm.trans h1_) (by decide), fun _ h1_ => absurd ((hon 7 (by kernel_rfl)).symm.trans h1_) (by decide), fun _ h1_ => absurd ((hon 11 (by kernel_rfl)).symm.trans h1_) (by decide), Q_HO116, Q_HA_HO116, fun _ h1_ => absurd ((hon 16 (by kernel_rfl)).symm.trans h1_) (by decide), Q_HO122, Q_HA_HO122, fun _ h1_ => absurd ((hon 20 (by kernel_rfl)).symm.trans h1_) (by decide), Q_HI0_e20, Q_HI0_e23, Q_HO132, Q_HA_HO132, Q_HI0_e27, Q_HI0_e31, Q_BK138, Q_GW138, Q_GE138, Q_NB0_138, Q_NB138_0, Q_NB107_138, Q_NB138_107, fun h0_ => absurd ((hoff 35 (by kernel_rfl)).symm.trans h0_) (by decide), Q_X12_, Q_X17_, Q_X28_, Q_X34_⟩
        refine steps_cons ?_ ?_
        ·rintro b a w' ⟨v115, adz_v115, v121, adz_v121, v131, adz_v131, gb138, m12_, m17_, m28_, m34_, ha, Q_BK107, Q_HI0, Q_HK, Q_HB, Q_HI0_e1, Q_HI0_e4, Q_HI0_e7, Q_HO116, Q_HA_HO116, Q_HI0_e11, Q_HO122, Q_HA_HO122, Q_HI0_e16, Q_HI0_e20, Q_HI0_e23, Q_HO132, Q_HA_HO132, Q_HI0_e27, Q_HI0_e31, Q_BK138, Q_GW138, Q_GE138, Q_NB0_138, Q_NB138_0, Q_NB107_138, Q_NB138_107, Q_BK138_e35, Q_X12_, Q_X17_, Q_X28_, Q_X34_⟩ hb_ hon hoff
         refine ⟨_, rfl, fun K hK => ?_⟩
         have e26 : a.tmps[26]? = some (.pointer (some ⟨g, 0, none⟩)) := by rw [ha]; exact (putSel_off rfl).trans rfl
         replace ha := Aside0.mk ha
         have BK107 := Aside0.mk Q_BK107
         have HK := Aside0.mk Q_HK
         have HB := Aside0.mk Q_HB
         have HI0 := Aside0.mk (Q_HI0_e20 (hon 20 (by kernel_rfl)) hb_)
         refine goes_ Try.func74 (by kernel_rfl) rfl #[.pointer (some ⟨g, 0, none⟩), .int .i64 2] (by rfl) rfl rfl (by first | (simp only [List.map_toArray, List.map_cons, List.map_nil, Act.eval, Array.getD_eq_getD_getElem?, Option.getD_some, e26]; done) | (simp only [List.map_toArray, List.map_cons, List.map_nil, Act.eval, Array.getD_eq_getD_getElem?, Option.getD_some, e26]; rfl)) ?_
         with_reducible refine (spec_l20Rd_pick.calls k g s0_0 t127 2 t128 t129 w0 _ ?side1 ?side2 A12.out).mono ?_
         (case side1 => repeat (first | (with_reducible first | exact HI0.out | apply IsS115.alloc | apply IsS115.drewN | apply IsS115.drew | apply IsS115.set_1 | refine IsS115.far ?_ NB0_107.out _) | exact HI0.out))
         (case side2 => repeat (first | (with_reducible first | exact HB.out | apply below_alloc | apply pw_below_drewN | apply below_drew1 | refine below_set ?_ (IsS115.ge HI0.out) | refine below_set ?_ GE107.out) | exact HB.out))
         rintro e w27 ⟨rfl, hi, hb, hk⟩
         refine ⟨_, rfl, ?_⟩
         have n0_ := Aside0.mk (KeepBut.blk hk (g' := gb107) (o := .cells #[.int .i64 0, .int .i64 0, .int .i64 0, .int .i64 0, .int .i64 0, .int .i64 0, .int .i64 0, .bool false, .int .i64 0, .int .i64 0] 50 (0, 0)) (by (with_reducible repeat (first | refine blk_drewN ?_ _ | refine blk_drew ?_ | refine blk_alloc ?_ _)); exact BK107.out) NB107_0.out (by simp))
         have n1_ := Aside0.mk (KeepBut.trans (by repeat (first | (with_reducible first | exact HK.out | apply KeepBut.set_ | apply keep_drewN | apply keep_drew | apply keep_alloc | refine keep_far ?_ GW107.out _) | exact HK.out)) hk (.inl rfl))
         have n2_ := Aside0.mk (hb)
         have n3_ := Aside0.mk (hi)
         have z_HO116 := fun (h0_ : b 9 = true) => (show Kd.R (Kd.int .i64) 3 w27 w.heap.size (fun _ => True) v115 y114 from by first | exact (Kd.R_mono (Kd.R_keep (IsS115.apart (show IsS115 w0 _ g s0_0 t127 from by repeat (first | (with_reducible first | exact HI0.out | apply IsS115.alloc | apply IsS115.drewN | apply IsS115.drew | apply IsS115.set_1 | refine IsS115.far ?_ NB0_107.out _) | exact HI0.out)) (by (with_reducible repeat (first | apply Kd.R_alloc | apply Kd.R_drewN | apply Kd.R_drew)); exact (Q_HO116 h0_)) (by decide)) hk (fun _ h => h.2)) (fun _ h => h.1)) | exact Kd.R_mono (Kd.R_mono (Kd.R_keep (IsS115.apart (show IsS115 w0 _ g s0_0 t127 from by repeat (first | (with_reducible first | exact HI0.out | apply IsS115.alloc | apply IsS115.drewN | apply IsS115.drew | apply IsS115.set_1 | refine IsS115.far ?_ NB0_107.out _) | exact HI0.out)) (by (with_reducible repeat (first | apply Kd.R_alloc | apply Kd.R_drewN | apply Kd.R_drew)); exact (Q_HO116 h0_)) (by decide)) hk (fun _ h => h.2)) (fun _ h => h.1)) (fun _ h_ => by first | trivial | exact h_ | exact h_.1))
         have z_HO122 := fun (h0_ : b 14 = true) => (show Kd.R (Kd.int .i64) 3 w27 w.heap.size (fun _ => True) v121 y120 from by first | exact (Kd.R_mono (Kd.R_keep (IsS115.apart (show IsS115 w0 _ g s0_0 t127 from by repeat (first | (with_reducible first | exact HI0.out | apply IsS115.alloc | apply IsS115.drewN | apply IsS115.drew | apply IsS115.set_1 | refine IsS115.far ?_ NB0_107.out _) | exact HI0.out)) (by (with_reducible repeat (first | apply Kd.R_alloc | apply Kd.R_drewN | apply Kd.R_drew)); exact (Q_HO122 h0_)) (by decide)) hk (fun _ h => h.2)) (fun _ h => h.1)) | exact Kd.R_mono (Kd.R_mono (Kd.R_keep (IsS115.apart (show IsS115 w0 _ g s0_0 t127 from by repeat (first | (with_reducible first | exact HI0.out | apply IsS115.alloc | apply IsS115.drewN | apply IsS115.drew | apply IsS115.set_1 | refine IsS115.far ?_ NB0_107.out _) | exact HI0.out)) (by (with_reducible repeat (first | apply Kd.R_alloc | apply Kd.R_drewN | apply Kd.R_drew)); exact (Q_HO122 h0_)) (by decide)) hk (fun _ h => h.2)) (fun _ h => h.1)) (fun _ h_ => by first | trivial | exact h_ | exact h_.1))
         have z_HO132 := fun (h0_ : b 25 = true) => (show Kd.R (Kd.int .i64) 3 w27 w.heap.size (fun _ => True) v131 y130 from by first | exact (Kd.R_mono (Kd.R_keep (IsS115.apart (show IsS115 w0 _ g s0_0 t127 from by repeat (first | (with_reducible first | exact HI0.out | apply IsS115.alloc | apply IsS115.drewN | apply IsS115.drew | apply IsS115.set_1 | refine IsS115.far ?_ NB0_107.out _) | exact HI0.out)) (by (with_reducible repeat (first | apply Kd.R_alloc | apply Kd.R_drewN | apply Kd.R_drew)); exact (Q_HO132 h0_)) (by decide)) hk (fun _ h => h.2)) (fun _ h => h.1)) | exact Kd.R_mono (Kd.R_mono (Kd.R_keep (IsS115.apart (show IsS115 w0 _ g s0_0 t127 from by repeat (first | (with_reducible first | exact HI0.out | apply IsS115.alloc | apply IsS115.drewN | apply IsS115.drew | apply IsS115.set_1 | refine IsS115.far ?_ NB0_107.out _) | exact HI0.out)) (by (with_reducible repeat (first | apply Kd.R_alloc | apply Kd.R_drewN | apply Kd.R_drew)); exact (Q_HO132 h0_)) (by decide)) hk (fun _ h => h.2)) (fun _ h => h.1)) (fun _ h_ => by first | trivial | exact h_ | exact h_.1))
         have z_BK138 := fun (h0_ : b 34 = true) (h1_ : b 35 = false) => (show w27.heap[gb138]? = some (.cells #[.int .i64 0, .int .i64 0, .int .i64 0, .int .i64 0, .int .i64 0, .int .i64 0, .int .i64 0, .bool false, .int .i64 0, .int .i64 0] 50 (0, 0)) from by first | exact (KeepBut.blk hk (g' := gb138) (o := .cells #[.int .i64 0, .int .i64 0, .int .i64 0, .int .i64 0, .int .i64 0, .int .i64 0, .int .i64 0, .bool false, .int .i64 0, .int .i64 0] 50 (0, 0)) (by (with_reducible repeat (first | refine blk_drewN ?_ _ | refine blk_drew ?_ | refine blk_alloc ?_ _)); exact (Q_BK138 h0_ h1_)) (Q_NB138_0 h0_) (by simp)))
         clear BK107
         clear HK
         clear HB
         clear HI0
         have BK107 := n0_
         have HK := n1_
         have HB := n2_
         have HI0 := n3_
         clear n0_ n1_ n2_ n3_
         (try clear hb)
         (try clear hb2)
         (try clear hk)
         (try clear hi)
         refine hK.out _ _ ⟨v115, adz_v115, v121, adz_v121, v131, adz_v131, gb138, m12_, m17_, m28_, m34_, (by rw [ha.out]; exact putSel_upk 16 hb_ rfl rfl rfl), (by (with_reducible repeat (first | refine blk_drewN ?_ _ | refine blk_drew ?_ | refine blk_alloc ?_ _)); exact BK107.out), fun h0_ => absurd ((hon 1 (by kernel_rfl)).symm.trans h0_) (by decide), (by repeat (first | (with_reducible first | exact HK.out | apply KeepBut.set_ | apply keep_drewN | apply keep_drew | apply keep_alloc | refine keep_far ?_ GW107.out _) | exact HK.out)), (by repeat (first | (with_reducible first | exact HB.out | apply below_alloc | apply pw_below_drewN | apply below_drew1 | refine below_set ?_ (IsS115.ge HI0.out) | refine below_set ?_ GE107.out) | exact HB.out)), fun _ h1_ => absurd ((hon 4 (by kernel_rfl)).symm.trans h1_) (by decide), fun _ h1_ => absurd ((hon 7 (by kernel_rfl)).symm.trans h1_) (by decide), fun _ h1_ => absurd ((hon 11 (by kernel_rfl)).symm.trans h1_) (by decide), z_HO116, Q_HA_HO116, fun _ h1_ => absurd ((hon 16 (by kernel_rfl)).symm.trans h1_) (by decide), z_HO122, Q_HA_HO122, fun _ h1_ => absurd ((hon 20 (by kernel_rfl)).symm.trans h1_) (by decide), fun _ h1_ => absurd ((up_self b 23).symm.trans h1_) (by decide), fun _ _ => (by repeat (first | (with_reducible first | exact HI0.out | apply IsS115.alloc | apply IsS115.drewN | apply IsS115.drew | apply IsS115.set_1 | refine IsS115.far ?_ NB0_107.out _) | exact HI0.out)), z_HO132, Q_HA_HO132, fun h0_ _ => absurd ((hoff 27 (by kernel_rfl)).symm.trans h0_) (by decide), fun h0_ => absurd ((hoff 31 (by kernel_rfl)).symm.trans h0_) (by decide), z_BK138, Q_GW138, Q_GE138, Q_NB0_138, Q_NB138_0, Q_NB107_138, Q_NB138_107, fun h0_ => absurd ((hoff 35 (by kernel_rfl)).symm.trans h0_) (by decide), Q_X12_, Q_X17_, fun h0_ => absurd ((hoff 28 (by kernel_rfl)).symm.trans h0_) (by decide), Q_X34_⟩
        refine steps_cons ?_ ?_
        ·rintro b a w' ⟨v115, adz_v115, v121, adz_v121, v131, adz_v131, gb138, m12_, m17_, m28_, m34_, ha, Q_BK107, Q_HI0, Q_HK, Q_HB, Q_HI0_e1, Q_HI0_e4, Q_HI0_e7, Q_HO116, Q_HA_HO116, Q_HI0_e11, Q_HO122, Q_HA_HO122, Q_HI0_e16, Q_HI0_e20, Q_HI0_e23, Q_HO132, Q_HA_HO132, Q_HI0_e27, Q_HI0_e31, Q_BK138, Q_GW138, Q_GE138, Q_NB0_138, Q_NB138_0, Q_NB107_138, Q_NB138_107, Q_BK138_e35, Q_X12_, Q_X17_, Q_X28_, Q_X34_⟩ hb_ hon hoff
         refine ⟨_, rfl, fun K hK => ?_⟩
         have e27 : a.tmps[27]? = some (.int .i64 t128) := by rw [ha]; exact putSel_on (e := (23, 27, .int .i64 t128)) 16 rfl rfl (hon 23 (by kernel_rfl)) rfl
         replace ha := Aside0.mk ha
         have BK107 := Aside0.mk Q_BK107
         have HK := Aside0.mk Q_HK
         have HB := Aside0.mk Q_HB
         refine value_ (w1 := w') (v := .bool (t128 == 0)) (by rfl) rfl ?_ ?_
         ·go_simp
          (try simp only [i64_w])
          try rfl
         refine hK.out _ _ ⟨v115, adz_v115, v121, adz_v121, v131, adz_v131, gb138, m12_, m17_, m28_, m34_, (by rw [ha.out]; exact putSel_upk 17 hb_ rfl rfl rfl), Q_BK107, fun h0_ => absurd ((hon 1 (by kernel_rfl)).symm.trans h0_) (by decide), Q_HK, Q_HB, fun _ h1_ => absurd ((hon 4 (by kernel_rfl)).symm.trans h1_) (by decide), fun _ h1_ => absurd ((hon 7 (by kernel_rfl)).symm.trans h1_) (by decide), fun _ h1_ => absurd ((hon 11 (by kernel_rfl)).symm.trans h1_) (by decide), Q_HO116, Q_HA_HO116, fun _ h1_ => absurd ((hon 16 (by kernel_rfl)).symm.trans h1_) (by decide), Q_HO122, Q_HA_HO122, fun _ h1_ => absurd ((hon 20 (by kernel_rfl)).symm.trans h1_) (by decide), fun _ h1_ => absurd ((hon 23 (by kernel_rfl)).symm.trans h1_) (by decide), Q_HI0_e23, Q_HO132, Q_HA_HO132, Q_HI0_e27, Q_HI0_e31, Q_BK138, Q_GW138, Q_GE138, Q_NB0_138, Q_NB138_0, Q_NB107_138, Q_NB138_107, fun h0_ => absurd ((hoff 35 (by kernel_rfl)).symm.trans h0_) (by decide), Q_X12_, Q_X17_, Q_X28_, Q_X34_⟩
        refine steps_cons ?_ ?_
        ·rintro b a w' ⟨v115, adz_v115, v121, adz_v121, v131, adz_v131, gb138, m12_, m17_, m28_, m34_, ha, Q_BK107, Q_HI0, Q_HK, Q_HB, Q_HI0_e1, Q_HI0_e4, Q_HI0_e7, Q_HO116, Q_HA_HO116, Q_HI0_e11, Q_HO122, Q_HA_HO122, Q_HI0_e16, Q_HI0_e20, Q_HI0_e23, Q_HO132, Q_HA_HO132, Q_HI0_e27, Q_HI0_e31, Q_BK138, Q_GW138, Q_GE138, Q_NB0_138, Q_NB138_0, Q_NB107_138, Q_NB138_107, Q_BK138_e35, Q_X12_, Q_X17_, Q_X28_, Q_X34_⟩ hb_ hon hoff
         refine ⟨_, rfl, fun K hK => ?_⟩
         replace ha := Aside0.mk ha
         have BK107 := Aside0.mk Q_BK107
         have HK := Aside0.mk Q_HK
         have HB := Aside0.mk Q_HB
         refine Kd.R_lit_step (Kd.int .i64) _ 3 ?hg (N := 29) ?hd (xs := ([(-9), (-9), (-9), 0, 5] : List Int)) (inner := [.int .i64 (-9), .int .i64 (-9), .int .i64 (-9), .int .i64 0, .int .i64 5]) (ok := fun _ => True) (okp := fun _ => True) ?hr ?hp (fun _ hk => hk) trivial (Below.refl _ _) (Nat.le_refl _) (by simp) ?_; (case hd => rfl); (case hg => rfl); (case hr => first | (go_simp; done) | (go_simp; rfl)); (case hp => exact (Reps.one (show Kd.M (Kd.int .i64) _ _ _ (-9) [.int .i64 (-9)] from rfl) (Reps.one (show Kd.M (Kd.int .i64) _ _ _ (-9) [.int .i64 (-9)] from rfl) (Reps.one (show Kd.M (Kd.int .i64) _ _ _ (-9) [.int .i64 (-9)] from rfl) (Reps.one (show Kd.M (Kd.int .i64) _ _ _ 0 [.int .i64 0] from rfl) (Reps.one (show Kd.M (Kd.int .i64) _ _ _ 5 [.int .i64 5] from rfl) (Reps.none _ _)))))))
         intro v131 w20 ho21 hb hg_ hnew_
         clear hg_ hnew_
         (first | rw [← Ny130.out] at ho21 | (simp only [Int.reduceToNat] at ho21; rw [← Ny130.out] at ho21))
         have n0_ := Aside0.mk (Kd.R_lower ho21 (keep_size (w := w) (g := g) (row := none) (by repeat (first | (with_reducible first | exact HK.out | apply KeepBut.set_ | apply keep_drewN | apply keep_drew | apply keep_alloc | refine keep_far ?_ GW107.out _) | exact HK.out))))
         have n2_ := Aside0.mk (blk_below (g := gb107) (o := .cells #[.int .i64 0, .int .i64 0, .int .i64 0, .int .i64 0, .int .i64 0, .int .i64 0, .int .i64 0, .bool false, .int .i64 0, .int .i64 0] 50 (0, 0)) (by (with_reducible repeat (first | refine blk_drewN ?_ _ | refine blk_drew ?_ | refine blk_alloc ?_ _)); exact BK107.out) hb)
         have n3_ := Aside0.mk (KeepBut.trans (by repeat (first | (with_reducible first | exact HK.out | apply KeepBut.set_ | apply keep_drewN | apply keep_drew | apply keep_alloc | refine keep_far ?_ GW107.out _) | exact HK.out)) (KeepBut.of_below hb g none) (.inl rfl))
         have n4_ := Aside0.mk (below_step (by repeat (first | (with_reducible first | exact HB.out | apply below_alloc | apply pw_below_drewN | apply below_drew1 | refine below_set ?_ GE107.out) | exact HB.out)) hb)
         have z_HI0 := fun (h0_ : b 1 = false) => (show IsS115 w0 w20 g s0_0 s0_1 from by first | exact (IsS115.below (by repeat (first | (with_reducible first | exact (Q_HI0 h0_) | apply IsS115.alloc | apply IsS115.drewN | apply IsS115.drew | apply IsS115.set_1 | refine IsS115.far ?_ NB0_107.out _) | exact (Q_HI0 h0_))) hb))
         have z_HI0_e1 := fun (h0_ : b 1 = true) (h1_ : b 4 = false) => (show IsS115 w0 w20 g s0_0 t109 from by first | exact (IsS115.below (by repeat (first | (with_reducible first | exact (Q_HI0_e1 h0_ h1_) | apply IsS115.alloc | apply IsS115.drewN | apply IsS115.drew | apply IsS115.set_1 | refine IsS115.far ?_ NB0_107.out _) | exact (Q_HI0_e1 h0_ h1_))) hb))
         have z_HI0_e4 := fun (h0_ : b 4 = true) (h1_ : b 7 = false) => (show IsS115 w0 w20 g s0_0 t111 from by first | exact (IsS115.below (by repeat (first | (with_reducible first | exact (Q_HI0_e4 h0_ h1_) | apply IsS115.alloc | apply IsS115.drewN | apply IsS115.drew | apply IsS115.set_1 | refine IsS115.far ?_ NB0_107.out _) | exact (Q_HI0_e4 h0_ h1_))) hb))
         have z_HI0_e7 := fun (h0_ : b 7 = true) (h1_ : b 11 = false) => (show IsS115 w0 w20 g s0_0 t113 from by first | exact (IsS115.below (by repeat (first | (with_reducible first | exact (Q_HI0_e7 h0_ h1_) | apply IsS115.alloc | apply IsS115.drewN | apply IsS115.drew | apply IsS115.set_1 | refine IsS115.far ?_ NB0_107.out _) | exact (Q_HI0_e7 h0_ h1_))) hb))
         have z_HO116 := fun (h0_ : b 9 = true) => (show Kd.R (Kd.int .i64) 3 w20 w.heap.size (fun _ => True) v115 y114 from by first | exact (Kd.R_elder' (by (with_reducible repeat (first | apply Kd.R_alloc | apply Kd.R_drewN | apply Kd.R_drew)); exact (Q_HO116 h0_)) (Kd.R_base ho21) hb) | exact Kd.R_mono (Kd.R_elder' (by (with_reducible repeat (first | apply Kd.R_alloc | apply Kd.R_drewN | apply Kd.R_drew)); exact (Q_HO116 h0_)) (Kd.R_base ho21) hb) (fun _ h_ => by first | trivial | exact h_ | exact h_.1))
         have z_HI0_e11 := fun (h0_ : b 11 = true) (h1_ : b 16 = false) => (show IsS115 w0 w20 g s0_0 t118 from by first | exact (IsS115.below (by repeat (first | (with_reducible first | exact (Q_HI0_e11 h0_ h1_) | apply IsS115.alloc | apply IsS115.drewN | apply IsS115.drew | apply IsS115.set_1 | refine IsS115.far ?_ NB0_107.out _) | exact (Q_HI0_e11 h0_ h1_))) hb))
         have z_HO122 := fun (h0_ : b 14 = true) => (show Kd.R (Kd.int .i64) 3 w20 w.heap.size (fun _ => True) v121 y120 from by first | exact (Kd.R_elder' (by (with_reducible repeat (first | apply Kd.R_alloc | apply Kd.R_drewN | apply Kd.R_drew)); exact (Q_HO122 h0_)) (Kd.R_base ho21) hb) | exact Kd.R_mono (Kd.R_elder' (by (with_reducible repeat (first | apply Kd.R_alloc | apply Kd.R_drewN | apply Kd.R_drew)); exact (Q_HO122 h0_)) (Kd.R_base ho21) hb) (fun _ h_ => by first | trivial | exact h_ | exact h_.1))
         have z_HI0_e16 := fun (h0_ : b 16 = true) (h1_ : b 20 = false) => (show IsS115 w0 w20 g s0_0 t124 from by first | exact (IsS115.below (by repeat (first | (with_reducible first | exact (Q_HI0_e16 h0_ h1_) | apply IsS115.alloc | apply IsS115.drewN | apply IsS115.drew | apply IsS115.set_1 | refine IsS115.far ?_ NB0_107.out _) | exact (Q_HI0_e16 h0_ h1_))) hb))
         have z_HI0_e20 := fun (h0_ : b 20 = true) (h1_ : b 23 = false) => (show IsS115 w0 w20 g s0_0 t127 from by first | exact (IsS115.below (by repeat (first | (with_reducible first | exact (Q_HI0_e20 h0_ h1_) | apply IsS115.alloc | apply IsS115.drewN | apply IsS115.drew | apply IsS115.set_1 | refine IsS115.far ?_ NB0_107.out _) | exact (Q_HI0_e20 h0_ h1_))) hb))
         have z_HI0_e23 := fun (h0_ : b 23 = true) (h1_ : b 27 = false) => (show IsS115 w0 w20 g s0_0 t129 from by first | exact (IsS115.below (by repeat (first | (with_reducible first | exact (Q_HI0_e23 h0_ h1_) | apply IsS115.alloc | apply IsS115.drewN | apply IsS115.drew | apply IsS115.set_1 | refine IsS115.far ?_ NB0_107.out _) | exact (Q_HI0_e23 h0_ h1_))) hb))
         have z_HI0_e27 := fun (h0_ : b 27 = true) (h1_ : b 31 = false) => (show IsS115 w0 w20 g s0_0 t134 from by first | exact (IsS115.below (by repeat (first | (with_reducible first | exact (Q_HI0_e27 h0_ h1_) | apply IsS115.alloc | apply IsS115.drewN | apply IsS115.drew | apply IsS115.set_1 | refine IsS115.far ?_ NB0_107.out _) | exact (Q_HI0_e27 h0_ h1_))) hb))
         have z_HI0_e31 := fun (h0_ : b 31 = true) => (show IsS115 w0 w20 g s0_0 t137 from by first | exact (IsS115.below (by repeat (first | (with_reducible first | exact (Q_HI0_e31 h0_) | apply IsS115.alloc | apply IsS115.drewN | apply IsS115.drew | apply IsS115.set_1 | refine IsS115.far ?_ NB0_107.out _) | exact (Q_HI0_e31 h0_))) hb))
         have z_BK138 := fun (h0_ : b 34 = true) (h1_ : b 35 = false) => (show w20.heap[gb138]? = some (.cells #[.int .i64 0, .int .i64 0, .int .i64 0, .int .i64 0, .int .i64 0, .int .i64 0, .int .i64 0, .bool false, .int .i64 0, .int .i64 0] 50 (0, 0)) from by first | exact (blk_below (g := gb138) (o := .cells #[.int .i64 0, .int .i64 0, .int .i64 0, .int .i64 0, .int .i64 0, .int .i64 0, .int .i64 0, .bool false, .int .i64 0, .int .i64 0] 50 (0, 0)) (by (with_reducible repeat (first | refine blk_drewN ?_ _ | refine blk_drew ?_ | refine blk_alloc ?_ _)); exact (Q_BK138 h0_ h1_)) hb))
         clear BK107
         clear HK
         clear HB
         have HO132 := n0_
         have BK107 := n2_
         have HK := n3_
         have HB := n4_
         clear n0_ n2_ n3_ n4_
         clear hb ho21
         obtain ⟨Ao22, co22, eo22⟩ := Kd.R_slice HO132.out
         subst eo22
         obtain ⟨ado22, fo22, _⟩ := Kd.at_int (Kd.R_reads' HO132.out).2.2 0 (by decide) (by rw [Ny130.out]; simp)
         cases fo22
         refine hK.out _ _ ⟨v115, adz_v115, v121, adz_v121, .slice (some ado22) y130.length co22, ado22, gb138, m12_, m17_, m28_, m34_, (by rw [ha.out]; exact putSel_upk 18 hb_ rfl rfl rfl), (by (with_reducible repeat (first | refine blk_drewN ?_ _ | refine blk_drew ?_ | refine blk_alloc ?_ _)); exact BK107.out), z_HI0, (by repeat (first | (with_reducible first | exact HK.out | apply KeepBut.set_ | apply keep_drewN | apply keep_drew | apply keep_alloc | refine keep_far ?_ GW107.out _) | exact HK.out)), (by repeat (first | (with_reducible first | exact HB.out | apply below_alloc | apply pw_below_drewN | apply below_drew1 | refine below_set ?_ GE107.out) | exact HB.out)), z_HI0_e1, z_HI0_e4, z_HI0_e7, z_HO116, Q_HA_HO116, z_HI0_e11, z_HO122, Q_HA_HO122, z_HI0_e16, z_HI0_e20, z_HI0_e23, fun _ => (by (with_reducible repeat (first | apply Kd.R_alloc | apply Kd.R_drewN | apply Kd.R_drew)); exact HO132.out), fun _ => ⟨_, rfl⟩, z_HI0_e27, z_HI0_e31, z_BK138, Q_GW138, Q_GE138, Q_NB0_138, Q_NB138_0, Q_NB107_138, Q_NB138_107, fun h0_ => absurd ((hoff 35 (by kernel_rfl)).symm.trans h0_) (by decide), Q_X12_, Q_X17_, fun h0_ => absurd ((hoff 28 (by kernel_rfl)).symm.trans h0_) (by decide), Q_X34_⟩
        refine steps_cons ?_ ?_
        ·rintro b a w' ⟨v115, adz_v115, v121, adz_v121, v131, adz_v131, gb138, m12_, m17_, m28_, m34_, ha, Q_BK107, Q_HI0, Q_HK, Q_HB, Q_HI0_e1, Q_HI0_e4, Q_HI0_e7, Q_HO116, Q_HA_HO116, Q_HI0_e11, Q_HO122, Q_HA_HO122, Q_HI0_e16, Q_HI0_e20, Q_HI0_e23, Q_HO132, Q_HA_HO132, Q_HI0_e27, Q_HI0_e31, Q_BK138, Q_GW138, Q_GE138, Q_NB0_138, Q_NB138_0, Q_NB107_138, Q_NB138_107, Q_BK138_e35, Q_X12_, Q_X17_, Q_X28_, Q_X34_⟩ hb_ hon hoff
         refine ⟨_, rfl, fun K hK => ?_⟩
         have e30 : a.tmps[30]? = some (.pointer (some ⟨g, 0, none⟩)) := by rw [ha]; exact (putSel_off rfl).trans rfl
         replace ha := Aside0.mk ha
         have BK107 := Aside0.mk Q_BK107
         have HK := Aside0.mk Q_HK
         have HB := Aside0.mk Q_HB
         have HI0 := Aside0.mk (Q_HI0_e23 (hon 23 (by kernel_rfl)) hb_)
         refine goes_ Try.func74 (by kernel_rfl) rfl #[.pointer (some ⟨g, 0, none⟩), .int .i64 5] (by rfl) rfl rfl (by first | (simp only [List.map_toArray, List.map_cons, List.map_nil, Act.eval, Array.getD_eq_getD_getElem?, Option.getD_some, e30]; done) | (simp only [List.map_toArray, List.map_cons, List.map_nil, Act.eval, Array.getD_eq_getD_getElem?, Option.getD_some, e30]; rfl)) ?_
         with_reducible refine (spec_l20Rd_pick.calls k g s0_0 t129 5 t133 t134 w0 _ ?side1 ?side2 A13.out).mono ?_
         (case side1 => repeat (first | (with_reducible first | exact HI0.out | apply IsS115.alloc | apply IsS115.drewN | apply IsS115.drew | apply IsS115.set_1 | refine IsS115.far ?_ NB0_107.out _) | exact HI0.out))
         (case side2 => repeat (first | (with_reducible first | exact HB.out | apply below_alloc | apply pw_below_drewN | apply below_drew1 | refine below_set ?_ (IsS115.ge HI0.out) | refine below_set ?_ GE107.out) | exact HB.out))
         rintro e w28 ⟨rfl, hi, hb, hk⟩
         refine ⟨_, rfl, ?_⟩
         have n0_ := Aside0.mk (KeepBut.blk hk (g' := gb107) (o := .cells #[.int .i64 0, .int .i64 0, .int .i64 0, .int .i64 0, .int .i64 0, .int .i64 0, .int .i64 0, .bool false, .int .i64 0, .int .i64 0] 50 (0, 0)) (by (with_reducible repeat (first | refine blk_drewN ?_ _ | refine blk_drew ?_ | refine blk_alloc ?_ _)); exact BK107.out) NB107_0.out (by simp))
         have n1_ := Aside0.mk (KeepBut.trans (by repeat (first | (with_reducible first | exact HK.out | apply KeepBut.set_ | apply keep_drewN | apply keep_drew | apply keep_alloc | refine keep_far ?_ GW107.out _) | exact HK.out)) hk (.inl rfl))
         have n2_ := Aside0.mk (hb)
         have n3_ := Aside0.mk (hi)
         have z_HO116 := fun (h0_ : b 9 = true) => (show Kd.R (Kd.int .i64) 3 w28 w.heap.size (fun _ => True) v115 y114 from by first | exact (Kd.R_mono (Kd.R_keep (IsS115.apart (show IsS115 w0 _ g s0_0 t129 from by repeat (first | (with_reducible first | exact HI0.out | apply IsS115.alloc | apply IsS115.drewN | apply IsS115.drew | apply IsS115.set_1 | refine IsS115.far ?_ NB0_107.out _) | exact HI0.out)) (by (with_reducible repeat (first | apply Kd.R_alloc | apply Kd.R_drewN | apply Kd.R_drew)); exact (Q_HO116 h0_)) (by decide)) hk (fun _ h => h.2)) (fun _ h => h.1)) | exact Kd.R_mono (Kd.R_mono (Kd.R_keep (IsS115.apart (show IsS115 w0 _ g s0_0 t129 from by repeat (first | (with_reducible first | exact HI0.out | apply IsS115.alloc | apply IsS115.drewN | apply IsS115.drew | apply IsS115.set_1 | refine IsS115.far ?_ NB0_107.out _) | exact HI0.out)) (by (with_reducible repeat (first | apply Kd.R_alloc | apply Kd.R_drewN | apply Kd.R_drew)); exact (Q_HO116 h0_)) (by decide)) hk (fun _ h => h.2)) (fun _ h => h.1)) (fun _ h_ => by first | trivial | exact h_ | exact h_.1))
         have z_HO122 := fun (h0_ : b 14 = true) => (show Kd.R (Kd.int .i64) 3 w28 w.heap.size (fun _ => True) v121 y120 from by first | exact (Kd.R_mono (Kd.R_keep (IsS115.apart (show IsS115 w0 _ g s0_0 t129 from by repeat (first | (with_reducible first | exact HI0.out | apply IsS115.alloc | apply IsS115.drewN | apply IsS115.drew | apply IsS115.set_1 | refine IsS115.far ?_ NB0_107.out _) | exact HI0.out)) (by (with_reducible repeat (first | apply Kd.R_alloc | apply Kd.R_drewN | apply Kd.R_drew)); exact (Q_HO122 h0_)) (by decide)) hk (fun _ h => h.2)) (fun _ h => h.1)) | exact Kd.R_mono (Kd.R_mono (Kd.R_keep (IsS115.apart (show IsS115 w0 _ g s0_0 t129 from by repeat (first | (with_reducible first | exact HI0.out | apply IsS115.alloc | apply IsS115.drewN | apply IsS115.drew | apply IsS115.set_1 | refine IsS115.far ?_ NB0_107.out _) | exact HI0.out)) (by (with_reducible repeat (first | apply Kd.R_alloc | apply Kd.R_drewN | apply Kd.R_drew)); exact (Q_HO122 h0_)) (by decide)) hk (fun _ h => h.2)) (fun _ h => h.1)) (fun _ h_ => by first | trivial | exact h_ | exact h_.1))
         have z_HO132 := fun (h0_ : b 25 = true) => (show Kd.R (Kd.int .i64) 3 w28 w.heap.size (fun _ => True) v131 y130 from by first | exact (Kd.R_mono (Kd.R_keep (IsS115.apart (show IsS115 w0 _ g s0_0 t129 from by repeat (first | (with_reducible first | exact HI0.out | apply IsS115.alloc | apply IsS115.drewN | apply IsS115.drew | apply IsS115.set_1 | refine IsS115.far ?_ NB0_107.out _) | exact HI0.out)) (by (with_reducible repeat (first | apply Kd.R_alloc | apply Kd.R_drewN | apply Kd.R_drew)); exact (Q_HO132 h0_)) (by decide)) hk (fun _ h => h.2)) (fun _ h => h.1)) | exact Kd.R_mono (Kd.R_mono (Kd.R_keep (IsS115.apart (show IsS115 w0 _ g s0_0 t129 from by repeat (first | (with_reducible first | exact HI0.out | apply IsS115.alloc | apply IsS115.drewN | apply IsS115.drew | apply IsS115.set_1 | refine IsS115.far ?_ NB0_107.out _) | exact HI0.out)) (by (with_reducible repeat (first | apply Kd.R_alloc | apply Kd.R_drewN | apply Kd.R_drew)); exact (Q_HO132 h0_)) (by decide)) hk (fun _ h => h.2)) (fun _ h => h.1)) (fun _ h_ => by first | trivial | exact h_ | exact h_.1))
         have z_BK138 := fun (h0_ : b 34 = true) (h1_ : b 35 = false) => (show w28.heap[gb138]? = some (.cells #[.int .i64 0, .int .i64 0, .int .i64 0, .int .i64 0, .int .i64 0, .int .i64 0, .int .i64 0, .bool false, .int .i64 0, .int .i64 0] 50 (0, 0)) from by first | exact (KeepBut.blk hk (g' := gb138) (o := .cells #[.int .i64 0, .int .i64 0, .int .i64 0, .int .i64 0, .int .i64 0, .int .i64 0, .int .i64 0, .bool false, .int .i64 0, .int .i64 0] 50 (0, 0)) (by (with_reducible repeat (first | refine blk_drewN ?_ _ | refine blk_drew ?_ | refine blk_alloc ?_ _)); exact (Q_BK138 h0_ h1_)) (Q_NB138_0 h0_) (by simp)))
         clear BK107
         clear HK
         clear HB
         clear HI0
         have BK107 := n0_
         have HK := n1_
         have HB := n2_
         have HI0 := n3_
         clear n0_ n1_ n2_ n3_
         (try clear hb)
         (try clear hb2)
         (try clear hk)
         (try clear hi)
         refine hK.out _ _ ⟨v115, adz_v115, v121, adz_v121, v131, adz_v131, gb138, m12_, m17_, m28_, m34_, (by rw [ha.out]; exact putSel_upk 19 hb_ rfl rfl rfl), (by (with_reducible repeat (first | refine blk_drewN ?_ _ | refine blk_drew ?_ | refine blk_alloc ?_ _)); exact BK107.out), fun h0_ => absurd ((hon 1 (by kernel_rfl)).symm.trans h0_) (by decide), (by repeat (first | (with_reducible first | exact HK.out | apply KeepBut.set_ | apply keep_drewN | apply keep_drew | apply keep_alloc | refine keep_far ?_ GW107.out _) | exact HK.out)), (by repeat (first | (with_reducible first | exact HB.out | apply below_alloc | apply pw_below_drewN | apply below_drew1 | refine below_set ?_ (IsS115.ge HI0.out) | refine below_set ?_ GE107.out) | exact HB.out)), fun _ h1_ => absurd ((hon 4 (by kernel_rfl)).symm.trans h1_) (by decide), fun _ h1_ => absurd ((hon 7 (by kernel_rfl)).symm.trans h1_) (by decide), fun _ h1_ => absurd ((hon 11 (by kernel_rfl)).symm.trans h1_) (by decide), z_HO116, Q_HA_HO116, fun _ h1_ => absurd ((hon 16 (by kernel_rfl)).symm.trans h1_) (by decide), z_HO122, Q_HA_HO122, fun _ h1_ => absurd ((hon 20 (by kernel_rfl)).symm.trans h1_) (by decide), fun _ h1_ => absurd ((hon 23 (by kernel_rfl)).symm.trans h1_) (by decide), fun _ h1_ => absurd ((up_self b 27).symm.trans h1_) (by decide), z_HO132, Q_HA_HO132, fun _ _ => (by repeat (first | (with_reducible first | exact HI0.out | apply IsS115.alloc | apply IsS115.drewN | apply IsS115.drew | apply IsS115.set_1 | refine IsS115.far ?_ NB0_107.out _) | exact HI0.out)), fun h0_ => absurd ((hoff 31 (by kernel_rfl)).symm.trans h0_) (by decide), z_BK138, Q_GW138, Q_GE138, Q_NB0_138, Q_NB138_0, Q_NB107_138, Q_NB138_107, fun h0_ => absurd ((hoff 35 (by kernel_rfl)).symm.trans h0_) (by decide), Q_X12_, Q_X17_, fun h0_ => absurd ((hoff 28 (by kernel_rfl)).symm.trans h0_) (by decide), Q_X34_⟩
        refine steps_cons ?_ ?_
        ·rintro b a w' ⟨v115, adz_v115, v121, adz_v121, v131, adz_v131, gb138, m12_, m17_, m28_, m34_, ha, Q_BK107, Q_HI0, Q_HK, Q_HB, Q_HI0_e1, Q_HI0_e4, Q_HI0_e7, Q_HO116, Q_HA_HO116, Q_HI0_e11, Q_HO122, Q_HA_HO122, Q_HI0_e16, Q_HI0_e20, Q_HI0_e23, Q_HO132, Q_HA_HO132, Q_HI0_e27, Q_HI0_e31, Q_BK138, Q_GW138, Q_GE138, Q_NB0_138, Q_NB138_0, Q_NB107_138, Q_NB138_107, Q_BK138_e35, Q_X12_, Q_X17_, Q_X28_, Q_X34_⟩ hb_ hon hoff
         refine ⟨_, rfl, fun K hK => ?_⟩
         have e29 : a.tmps[29]? = some (v131) := by rw [ha]; exact putSel_on (e := (25, 29, v131)) 18 rfl rfl (hon 25 (by kernel_rfl)) rfl
         have e31 : a.tmps[31]? = some (.int .i64 t133) := by rw [ha]; exact putSel_on (e := (27, 31, .int .i64 t133)) 19 rfl rfl (hon 27 (by kernel_rfl)) rfl
         replace ha := Aside0.mk ha
         have BK107 := Aside0.mk Q_BK107
         have HK := Aside0.mk Q_HK
         have HB := Aside0.mk Q_HB
         have HO132 := Aside0.mk (Q_HO132 (hon 25 (by kernel_rfl)))
         have HA_HO132 := Aside0.mk (Q_HA_HO132 (hon 25 (by kernel_rfl)))
         obtain ⟨c_, hv_⟩ := HA_HO132.out
         rw [hv_] at e29
         refine value_ (w1 := w') (v := .pointer (some (adz_v131.add (t133).toNat))) (by rfl) rfl ?_ ?_
         ·go_simp
          (try simp only [i64_w])
          try rfl
         refine hK.out _ _ ⟨v115, adz_v115, v121, adz_v121, v131, adz_v131, gb138, m12_, m17_, (.pointer (some (adz_v131.add (t133).toNat))), m34_, (by rw [ha.out]; exact putSel_upk 20 hb_ rfl rfl rfl), Q_BK107, fun h0_ => absurd ((hon 1 (by kernel_rfl)).symm.trans h0_) (by decide), Q_HK, Q_HB, fun _ h1_ => absurd ((hon 4 (by kernel_rfl)).symm.trans h1_) (by decide), fun _ h1_ => absurd ((hon 7 (by kernel_rfl)).symm.trans h1_) (by decide), fun _ h1_ => absurd ((hon 11 (by kernel_rfl)).symm.trans h1_) (by decide), Q_HO116, Q_HA_HO116, fun _ h1_ => absurd ((hon 16 (by kernel_rfl)).symm.trans h1_) (by decide), Q_HO122, Q_HA_HO122, fun _ h1_ => absurd ((hon 20 (by kernel_rfl)).symm.trans h1_) (by decide), fun _ h1_ => absurd ((hon 23 (by kernel_rfl)).symm.trans h1_) (by decide), fun _ h1_ => absurd ((hon 27 (by kernel_rfl)).symm.trans h1_) (by decide), Q_HO132, Q_HA_HO132, Q_HI0_e27, Q_HI0_e31, Q_BK138, Q_GW138, Q_GE138, Q_NB0_138, Q_NB138_0, Q_NB107_138, Q_NB138_107, fun h0_ => absurd ((hoff 35 (by kernel_rfl)).symm.trans h0_) (by decide), Q_X12_, Q_X17_, fun _ => rfl, Q_X34_⟩
        refine steps_cons ?_ ?_
        ·rintro b a w' ⟨v115, adz_v115, v121, adz_v121, v131, adz_v131, gb138, m12_, m17_, m28_, m34_, ha, Q_BK107, Q_HI0, Q_HK, Q_HB, Q_HI0_e1, Q_HI0_e4, Q_HI0_e7, Q_HO116, Q_HA_HO116, Q_HI0_e11, Q_HO122, Q_HA_HO122, Q_HI0_e16, Q_HI0_e20, Q_HI0_e23, Q_HO132, Q_HA_HO132, Q_HI0_e27, Q_HI0_e31, Q_BK138, Q_GW138, Q_GE138, Q_NB0_138, Q_NB138_0, Q_NB107_138, Q_NB138_107, Q_BK138_e35, Q_X12_, Q_X17_, Q_X28_, Q_X34_⟩ hb_ hon hoff
         refine ⟨_, rfl, fun K hK => ?_⟩
         have e32 : a.tmps[32]? = some (m28_) := by rw [ha]; exact putSel_on (e := (28, 32, m28_)) 20 rfl rfl (hon 28 (by kernel_rfl)) rfl
         rw [Q_X28_ (hon 28 (by kernel_rfl))] at e32
         replace ha := Aside0.mk ha
         have BK107 := Aside0.mk Q_BK107
         have HK := Aside0.mk Q_HK
         have HB := Aside0.mk Q_HB
         have HO132 := Aside0.mk (Q_HO132 (hon 25 (by kernel_rfl)))
         have HA_HO132 := Aside0.mk (Q_HA_HO132 (hon 25 (by kernel_rfl)))
         obtain ⟨c_, hv_⟩ := HA_HO132.out
         have hF_ := HO132.out
         rw [hv_] at hF_
         obtain ⟨ad_, ea_, hx_⟩ := Kd.at_int (Kd.R_reads' hF_).2.2 t133 (of_eq_true pi135) (of_eq_true qi135)
         cases ea_
         refine value_ (w1 := w') (v := .int .i64 (rd y130 t133)) (by rfl) rfl ?_ ?_
         ·go_simp
          (try simp only [i64_w])
          try rfl
         refine hK.out _ _ ⟨v115, adz_v115, v121, adz_v121, v131, adz_v131, gb138, m12_, m17_, m28_, m34_, (by rw [ha.out]; exact putSel_upk 21 hb_ rfl rfl rfl), Q_BK107, fun h0_ => absurd ((hon 1 (by kernel_rfl)).symm.trans h0_) (by decide), Q_HK, Q_HB, fun _ h1_ => absurd ((hon 4 (by kernel_rfl)).symm.trans h1_) (by decide), fun _ h1_ => absurd ((hon 7 (by kernel_rfl)).symm.trans h1_) (by decide), fun _ h1_ => absurd ((hon 11 (by kernel_rfl)).symm.trans h1_) (by decide), Q_HO116, Q_HA_HO116, fun _ h1_ => absurd ((hon 16 (by kernel_rfl)).symm.trans h1_) (by decide), Q_HO122, Q_HA_HO122, fun _ h1_ => absurd ((hon 20 (by kernel_rfl)).symm.trans h1_) (by decide), fun _ h1_ => absurd ((hon 23 (by kernel_rfl)).symm.trans h1_) (by decide), fun _ h1_ => absurd ((hon 27 (by kernel_rfl)).symm.trans h1_) (by decide), Q_HO132, Q_HA_HO132, Q_HI0_e27, Q_HI0_e31, Q_BK138, Q_GW138, Q_GE138, Q_NB0_138, Q_NB138_0, Q_NB107_138, Q_NB138_107, fun h0_ => absurd ((hoff 35 (by kernel_rfl)).symm.trans h0_) (by decide), Q_X12_, Q_X17_, Q_X28_, Q_X34_⟩
        refine steps_cons ?_ ?_
        ·rintro b a w' ⟨v115, adz_v115, v121, adz_v121, v131, adz_v131, gb138, m12_, m17_, m28_, m34_, ha, Q_BK107, Q_HI0, Q_HK, Q_HB, Q_HI0_e1, Q_HI0_e4, Q_HI0_e7, Q_HO116, Q_HA_HO116, Q_HI0_e11, Q_HO122, Q_HA_HO122, Q_HI0_e16, Q_HI0_e20, Q_HI0_e23, Q_HO132, Q_HA_HO132, Q_HI0_e27, Q_HI0_e31, Q_BK138, Q_GW138, Q_GE138, Q_NB0_138, Q_NB138_0, Q_NB107_138, Q_NB138_107, Q_BK138_e35, Q_X12_, Q_X17_, Q_X28_, Q_X34_⟩ hb_ hon hoff
         refine ⟨_, rfl, fun K hK => ?_⟩
         have e34 : a.tmps[34]? = some (.pointer (some ⟨g, 0, none⟩)) := by rw [ha]; exact (putSel_off rfl).trans rfl
         replace ha := Aside0.mk ha
         have BK107 := Aside0.mk Q_BK107
         have HK := Aside0.mk Q_HK
         have HB := Aside0.mk Q_HB
         have HI0 := Aside0.mk (Q_HI0_e27 (hon 27 (by kernel_rfl)) hb_)
         refine goes_ Try.func74 (by kernel_rfl) rfl #[.pointer (some ⟨g, 0, none⟩), .int .i64 4] (by rfl) rfl rfl (by first | (simp only [List.map_toArray, List.map_cons, List.map_nil, Act.eval, Array.getD_eq_getD_getElem?, Option.getD_some, e34]; done) | (simp only [List.map_toArray, List.map_cons, List.map_nil, Act.eval, Array.getD_eq_getD_getElem?, Option.getD_some, e34]; rfl)) ?_
         with_reducible refine (spec_l20Rd_pick.calls k g s0_0 t134 4 t136 t137 w0 _ ?side1 ?side2 A16.out).mono ?_
         (case side1 => repeat (first | (with_reducible first | exact HI0.out | apply IsS115.alloc | apply IsS115.drewN | apply IsS115.drew | apply IsS115.set_1 | refine IsS115.far ?_ NB0_107.out _) | exact HI0.out))
         (case side2 => repeat (first | (with_reducible first | exact HB.out | apply below_alloc | apply pw_below_drewN | apply below_drew1 | refine below_set ?_ (IsS115.ge HI0.out) | refine below_set ?_ GE107.out) | exact HB.out))
         rintro e w29 ⟨rfl, hi, hb, hk⟩
         refine ⟨_, rfl, ?_⟩
         have n0_ := Aside0.mk (KeepBut.blk hk (g' := gb107) (o := .cells #[.int .i64 0, .int .i64 0, .int .i64 0, .int .i64 0, .int .i64 0, .int .i64 0, .int .i64 0, .bool false, .int .i64 0, .int .i64 0] 50 (0, 0)) (by (with_reducible repeat (first | refine blk_drewN ?_ _ | refine blk_drew ?_ | refine blk_alloc ?_ _)); exact BK107.out) NB107_0.out (by simp))
         have n1_ := Aside0.mk (KeepBut.trans (by repeat (first | (with_reducible first | exact HK.out | apply KeepBut.set_ | apply keep_drewN | apply keep_drew | apply keep_alloc | refine keep_far ?_ GW107.out _) | exact HK.out)) hk (.inl rfl))
         have n2_ := Aside0.mk (hb)
         have n3_ := Aside0.mk (hi)
         have z_HO116 := fun (h0_ : b 9 = true) => (show Kd.R (Kd.int .i64) 3 w29 w.heap.size (fun _ => True) v115 y114 from by first | exact (Kd.R_mono (Kd.R_keep (IsS115.apart (show IsS115 w0 _ g s0_0 t134 from by repeat (first | (with_reducible first | exact HI0.out | apply IsS115.alloc | apply IsS115.drewN | apply IsS115.drew | apply IsS115.set_1 | refine IsS115.far ?_ NB0_107.out _) | exact HI0.out)) (by (with_reducible repeat (first | apply Kd.R_alloc | apply Kd.R_drewN | apply Kd.R_drew)); exact (Q_HO116 h0_)) (by decide)) hk (fun _ h => h.2)) (fun _ h => h.1)) | exact Kd.R_mono (Kd.R_mono (Kd.R_keep (IsS115.apart (show IsS115 w0 _ g s0_0 t134 from by repeat (first | (with_reducible first | exact HI0.out | apply IsS115.alloc | apply IsS115.drewN | apply IsS115.drew | apply IsS115.set_1 | refine IsS115.far ?_ NB0_107.out _) | exact HI0.out)) (by (with_reducible repeat (first | apply Kd.R_alloc | apply Kd.R_drewN | apply Kd.R_drew)); exact (Q_HO116 h0_)) (by decide)) hk (fun _ h => h.2)) (fun _ h => h.1)) (fun _ h_ => by first | trivial | exact h_ | exact h_.1))
         have z_HO122 := fun (h0_ : b 14 = true) => (show Kd.R (Kd.int .i64) 3 w29 w.heap.size (fun _ => True) v121 y120 from by first | exact (Kd.R_mono (Kd.R_keep (IsS115.apart (show IsS115 w0 _ g s0_0 t134 from by repeat (first | (with_reducible first | exact HI0.out | apply IsS115.alloc | apply IsS115.drewN | apply IsS115.drew | apply IsS115.set_1 | refine IsS115.far ?_ NB0_107.out _) | exact HI0.out)) (by (with_reducible repeat (first | apply Kd.R_alloc | apply Kd.R_drewN | apply Kd.R_drew)); exact (Q_HO122 h0_)) (by decide)) hk (fun _ h => h.2)) (fun _ h => h.1)) | exact Kd.R_mono (Kd.R_mono (Kd.R_keep (IsS115.apart (show IsS115 w0 _ g s0_0 t134 from by repeat (first | (with_reducible first | exact HI0.out | apply IsS115.alloc | apply IsS115.drewN | apply IsS115.drew | apply IsS115.set_1 | refine IsS115.far ?_ NB0_107.out _) | exact HI0.out)) (by (with_reducible repeat (first | apply Kd.R_alloc | apply Kd.R_drewN | apply Kd.R_drew)); exact (Q_HO122 h0_)) (by decide)) hk (fun _ h => h.2)) (fun _ h => h.1)) (fun _ h_ => by first | trivial | exact h_ | exact h_.1))
         have z_HO132 := fun (h0_ : b 25 = true) => (show Kd.R (Kd.int .i64) 3 w29 w.heap.size (fun _ => True) v131 y130 from by first | exact (Kd.R_mono (Kd.R_keep (IsS115.apart (show IsS115 w0 _ g s0_0 t134 from by repeat (first | (with_reducible first | exact HI0.out | apply IsS115.alloc | apply IsS115.drewN | apply IsS115.drew | apply IsS115.set_1 | refine IsS115.far ?_ NB0_107.out _) | exact HI0.out)) (by (with_reducible repeat (first | apply Kd.R_alloc | apply Kd.R_drewN | apply Kd.R_drew)); exact (Q_HO132 h0_)) (by decide)) hk (fun _ h => h.2)) (fun _ h => h.1)) | exact Kd.R_mono (Kd.R_mono (Kd.R_keep (IsS115.apart (show IsS115 w0 _ g s0_0 t134 from by repeat (first | (with_reducible first | exact HI0.out | apply IsS115.alloc | apply IsS115.drewN | apply IsS115.drew | apply IsS115.set_1 | refine IsS115.far ?_ NB0_107.out _) | exact HI0.out)) (by (with_reducible repeat (first | apply Kd.R_alloc | apply Kd.R_drewN | apply Kd.R_drew)); exact (Q_HO132 h0_)) (by decide)) hk (fun _ h => h.2)) (fun _ h => h.1)) (fun _ h_ => by first | trivial | exact h_ | exact h_.1))
         have z_BK138 := fun (h0_ : b 34 = true) (h1_ : b 35 = false) => (show w29.heap[gb138]? = some (.cells #[.int .i64 0, .int .i64 0, .int .i64 0, .int .i64 0, .int .i64 0, .int .i64 0, .int .i64 0, .bool false, .int .i64 0, .int .i64 0] 50 (0, 0)) from by first | exact (KeepBut.blk hk (g' := gb138) (o := .cells #[.int .i64 0, .int .i64 0, .int .i64 0, .int .i64 0, .int .i64 0, .int .i64 0, .int .i64 0, .bool false, .int .i64 0, .int .i64 0] 50 (0, 0)) (by (with_reducible repeat (first | refine blk_drewN ?_ _ | refine blk_drew ?_ | refine blk_alloc ?_ _)); exact (Q_BK138 h0_ h1_)) (Q_NB138_0 h0_) (by simp)))
         clear BK107
         clear HK
         clear HB
         clear HI0
         have BK107 := n0_
         have HK := n1_
         have HB := n2_
         have HI0 := n3_
         clear n0_ n1_ n2_ n3_
         (try clear hb)
         (try clear hb2)
         (try clear hk)
         (try clear hi)
         refine hK.out _ _ ⟨v115, adz_v115, v121, adz_v121, v131, adz_v131, gb138, m12_, m17_, m28_, m34_, (by rw [ha.out]; exact putSel_upk 22 hb_ rfl rfl rfl), (by (with_reducible repeat (first | refine blk_drewN ?_ _ | refine blk_drew ?_ | refine blk_alloc ?_ _)); exact BK107.out), fun h0_ => absurd ((hon 1 (by kernel_rfl)).symm.trans h0_) (by decide), (by repeat (first | (with_reducible first | exact HK.out | apply KeepBut.set_ | apply keep_drewN | apply keep_drew | apply keep_alloc | refine keep_far ?_ GW107.out _) | exact HK.out)), (by repeat (first | (with_reducible first | exact HB.out | apply below_alloc | apply pw_below_drewN | apply below_drew1 | refine below_set ?_ (IsS115.ge HI0.out) | refine below_set ?_ GE107.out) | exact HB.out)), fun _ h1_ => absurd ((hon 4 (by kernel_rfl)).symm.trans h1_) (by decide), fun _ h1_ => absurd ((hon 7 (by kernel_rfl)).symm.trans h1_) (by decide), fun _ h1_ => absurd ((hon 11 (by kernel_rfl)).symm.trans h1_) (by decide), z_HO116, Q_HA_HO116, fun _ h1_ => absurd ((hon 16 (by kernel_rfl)).symm.trans h1_) (by decide), z_HO122, Q_HA_HO122, fun _ h1_ => absurd ((hon 20 (by kernel_rfl)).symm.trans h1_) (by decide), fun _ h1_ => absurd ((hon 23 (by kernel_rfl)).symm.trans h1_) (by decide), fun _ h1_ => absurd ((hon 27 (by kernel_rfl)).symm.trans h1_) (by decide), z_HO132, Q_HA_HO132, fun _ h1_ => absurd ((up_self b 31).symm.trans h1_) (by decide), fun _ => (by repeat (first | (with_reducible first | exact HI0.out | apply IsS115.alloc | apply IsS115.drewN | apply IsS115.drew | apply IsS115.set_1 | refine IsS115.far ?_ NB0_107.out _) | exact HI0.out)), z_BK138, Q_GW138, Q_GE138, Q_NB0_138, Q_NB138_0, Q_NB107_138, Q_NB138_107, fun h0_ => absurd ((hoff 35 (by kernel_rfl)).symm.trans h0_) (by decide), Q_X12_, Q_X17_, Q_X28_, Q_X34_⟩
        refine steps_cons ?_ ?_
        ·rintro b a w' ⟨v115, adz_v115, v121, adz_v121, v131, adz_v131, gb138, m12_, m17_, m28_, m34_, ha, Q_BK107, Q_HI0, Q_HK, Q_HB, Q_HI0_e1, Q_HI0_e4, Q_HI0_e7, Q_HO116, Q_HA_HO116, Q_HI0_e11, Q_HO122, Q_HA_HO122, Q_HI0_e16, Q_HI0_e20, Q_HI0_e23, Q_HO132, Q_HA_HO132, Q_HI0_e27, Q_HI0_e31, Q_BK138, Q_GW138, Q_GE138, Q_NB0_138, Q_NB138_0, Q_NB107_138, Q_NB138_107, Q_BK138_e35, Q_X12_, Q_X17_, Q_X28_, Q_X34_⟩ hb_ hon hoff
         refine ⟨_, rfl, fun K hK => ?_⟩
         have e35 : a.tmps[35]? = some (.int .i64 t136) := by rw [ha]; exact putSel_on (e := (31, 35, .int .i64 t136)) 22 rfl rfl (hon 31 (by kernel_rfl)) rfl
         replace ha := Aside0.mk ha
         have BK107 := Aside0.mk Q_BK107
         have HK := Aside0.mk Q_HK
         have HB := Aside0.mk Q_HB
         have HI0 := Aside0.mk (Q_HI0_e31 (hon 31 (by kernel_rfl)))
         refine value_ (w1 := w') (v := .int .i64 (wrap64 (1 + t136))) (by rfl) rfl ?_ ?_
         ·go_simp
          (try simp only [i64_w])
          try rfl
         refine hK.out _ _ ⟨v115, adz_v115, v121, adz_v121, v131, adz_v131, gb138, m12_, m17_, m28_, m34_, (by rw [ha.out]; exact putSel_upk 23 hb_ rfl rfl rfl), Q_BK107, fun h0_ => absurd ((hon 1 (by kernel_rfl)).symm.trans h0_) (by decide), Q_HK, Q_HB, fun _ h1_ => absurd ((hon 4 (by kernel_rfl)).symm.trans h1_) (by decide), fun _ h1_ => absurd ((hon 7 (by kernel_rfl)).symm.trans h1_) (by decide), fun _ h1_ => absurd ((hon 11 (by kernel_rfl)).symm.trans h1_) (by decide), Q_HO116, Q_HA_HO116, fun _ h1_ => absurd ((hon 16 (by kernel_rfl)).symm.trans h1_) (by decide), Q_HO122, Q_HA_HO122, fun _ h1_ => absurd ((hon 20 (by kernel_rfl)).symm.trans h1_) (by decide), fun _ h1_ => absurd ((hon 23 (by kernel_rfl)).symm.trans h1_) (by decide), fun _ h1_ => absurd ((hon 27 (by kernel_rfl)).symm.trans h1_) (by decide), Q_HO132, Q_HA_HO132, fun _ h1_ => absurd ((hon 31 (by kernel_rfl)).symm.trans h1_) (by decide), Q_HI0_e31, Q_BK138, Q_GW138, Q_GE138, Q_NB0_138, Q_NB138_0, Q_NB107_138, Q_NB138_107, fun h0_ => absurd ((hoff 35 (by kernel_rfl)).symm.trans h0_) (by decide), Q_X12_, Q_X17_, Q_X28_, Q_X34_⟩
        refine steps_cons ?_ ?_
        ·rintro b a w' ⟨v115, adz_v115, v121, adz_v121, v131, adz_v131, gb138, m12_, m17_, m28_, m34_, ha, Q_BK107, Q_HI0, Q_HK, Q_HB, Q_HI0_e1, Q_HI0_e4, Q_HI0_e7, Q_HO116, Q_HA_HO116, Q_HI0_e11, Q_HO122, Q_HA_HO122, Q_HI0_e16, Q_HI0_e20, Q_HI0_e23, Q_HO132, Q_HA_HO132, Q_HI0_e27, Q_HI0_e31, Q_BK138, Q_GW138, Q_GE138, Q_NB0_138, Q_NB138_0, Q_NB107_138, Q_NB138_107, Q_BK138_e35, Q_X12_, Q_X17_, Q_X28_, Q_X34_⟩ hb_ hon hoff
         refine ⟨_, rfl, fun K hK => ?_⟩
         have e6 : a.tmps[6]? = some (.int .i64 (wrap64 (1 + t108))) := by rw [ha]; exact putSel_on (e := (2, 6, .int .i64 (wrap64 (1 + t108)))) 1 rfl rfl (hon 2 (by kernel_rfl)) rfl
         have e9 : a.tmps[9]? = some (.int .i64 (wrap64 (1 + t110))) := by rw [ha]; exact putSel_on (e := (5, 9, .int .i64 (wrap64 (1 + t110)))) 3 rfl rfl (hon 5 (by kernel_rfl)) rfl
         have e12 : a.tmps[12]? = some (.int .i64 (wrap64 (1 + t112))) := by rw [ha]; exact putSel_on (e := (8, 12, .int .i64 (wrap64 (1 + t112)))) 5 rfl rfl (hon 8 (by kernel_rfl)) rfl
         have e17 : a.tmps[17]? = some (.int .i64 (rd y114 t117)) := by rw [ha]; exact putSel_on (e := (13, 17, .int .i64 (rd y114 t117))) 9 rfl rfl (hon 13 (by kernel_rfl)) rfl
         have e22 : a.tmps[22]? = some (.int .i64 (rd y120 t123)) := by rw [ha]; exact putSel_on (e := (18, 22, .int .i64 (rd y120 t123))) 13 rfl rfl (hon 18 (by kernel_rfl)) rfl
         have e25 : a.tmps[25]? = some (.int .i64 (wrap64 (1 + t126))) := by rw [ha]; exact putSel_on (e := (21, 25, .int .i64 (wrap64 (1 + t126)))) 15 rfl rfl (hon 21 (by kernel_rfl)) rfl
         have e28 : a.tmps[28]? = some (.bool (t128 == 0)) := by rw [ha]; exact putSel_on (e := (24, 28, .bool (t128 == 0))) 17 rfl rfl (hon 24 (by kernel_rfl)) rfl
         have e33 : a.tmps[33]? = some (.int .i64 (rd y130 t133)) := by rw [ha]; exact putSel_on (e := (29, 33, .int .i64 (rd y130 t133))) 21 rfl rfl (hon 29 (by kernel_rfl)) rfl
         have e36 : a.tmps[36]? = some (.int .i64 (wrap64 (1 + t136))) := by rw [ha]; exact putSel_on (e := (32, 36, .int .i64 (wrap64 (1 + t136)))) 23 rfl rfl (hon 32 (by kernel_rfl)) rfl
         replace ha := Aside0.mk ha
         have BK107 := Aside0.mk Q_BK107
         have HK := Aside0.mk Q_HK
         have HB := Aside0.mk Q_HB
         have HO116 := Aside0.mk (Q_HO116 (hon 9 (by kernel_rfl)))
         have HA_HO116 := Aside0.mk (Q_HA_HO116 (hon 9 (by kernel_rfl)))
         have HO122 := Aside0.mk (Q_HO122 (hon 14 (by kernel_rfl)))
         have HA_HO122 := Aside0.mk (Q_HA_HO122 (hon 14 (by kernel_rfl)))
         have HO132 := Aside0.mk (Q_HO132 (hon 25 (by kernel_rfl)))
         have HA_HO132 := Aside0.mk (Q_HA_HO132 (hon 25 (by kernel_rfl)))
         have HI0 := Aside0.mk (Q_HI0_e31 (hon 31 (by kernel_rfl)))
         refine value_ (w1 := w') (v := .agg #[.int .i64 (wrap64 (1 + t108)), .int .i64 (wrap64 (1 + t110)), .int .i64 (wrap64 (1 + t112)), .int .i64 (rd y114 t117), .int .i64 0, .int .i64 (rd y120 t123), .int .i64 (wrap64 (1 + t126)), .bool (t128 == 0), .int .i64 (rd y130 t133), .int .i64 (wrap64 (1 + t136))]) (by rfl) rfl ?_ ?_
         ·go_simp
          (try simp only [i64_w])
          try rfl
         refine hK.out _ _ ⟨v115, adz_v115, v121, adz_v121, v131, adz_v131, gb138, m12_, m17_, m28_, m34_, (by rw [ha.out]; exact putSel_upk 24 hb_ rfl rfl rfl), Q_BK107, fun h0_ => absurd ((hon 1 (by kernel_rfl)).symm.trans h0_) (by decide), Q_HK, Q_HB, fun _ h1_ => absurd ((hon 4 (by kernel_rfl)).symm.trans h1_) (by decide), fun _ h1_ => absurd ((hon 7 (by kernel_rfl)).symm.trans h1_) (by decide), fun _ h1_ => absurd ((hon 11 (by kernel_rfl)).symm.trans h1_) (by decide), Q_HO116, Q_HA_HO116, fun _ h1_ => absurd ((hon 16 (by kernel_rfl)).symm.trans h1_) (by decide), Q_HO122, Q_HA_HO122, fun _ h1_ => absurd ((hon 20 (by kernel_rfl)).symm.trans h1_) (by decide), fun _ h1_ => absurd ((hon 23 (by kernel_rfl)).symm.trans h1_) (by decide), fun _ h1_ => absurd ((hon 27 (by kernel_rfl)).symm.trans h1_) (by decide), Q_HO132, Q_HA_HO132, fun _ h1_ => absurd ((hon 31 (by kernel_rfl)).symm.trans h1_) (by decide), Q_HI0_e31, Q_BK138, Q_GW138, Q_GE138, Q_NB0_138, Q_NB138_0, Q_NB107_138, Q_NB138_107, fun h0_ => absurd ((hoff 35 (by kernel_rfl)).symm.trans h0_) (by decide), Q_X12_, Q_X17_, Q_X28_, Q_X34_⟩
        refine steps_cons ?_ ?_
        ·rintro b a w' ⟨v115, adz_v115, v121, adz_v121, v131, adz_v131, gb138, m12_, m17_, m28_, m34_, ha, Q_BK107, Q_HI0, Q_HK, Q_HB, Q_HI0_e1, Q_HI0_e4, Q_HI0_e7, Q_HO116, Q_HA_HO116, Q_HI0_e11, Q_HO122, Q_HA_HO122, Q_HI0_e16, Q_HI0_e20, Q_HI0_e23, Q_HO132, Q_HA_HO132, Q_HI0_e27, Q_HI0_e31, Q_BK138, Q_GW138, Q_GE138, Q_NB0_138, Q_NB138_0, Q_NB107_138, Q_NB138_107, Q_BK138_e35, Q_X12_, Q_X17_, Q_X28_, Q_X34_⟩ hb_ hon hoff
         refine ⟨_, rfl, fun K hK => ?_⟩
         replace ha := Aside0.mk ha
         have BK107 := Aside0.mk Q_BK107
         have HK := Aside0.mk Q_HK
         have HB := Aside0.mk Q_HB
         refine box_step ?hg (N := 3) ?hd (cs := #[.int .i64 0, .int .i64 0, .int .i64 0, .int .i64 0, .int .i64 0, .int .i64 0, .int .i64 0, .bool false, .int .i64 0, .int .i64 0]) (t := 50) ?hr ?_; (case hd => rfl); (case hg => rfl); (case hr => first | (go_simp; done) | (go_simp; rfl))
         intro gb138 hg w20 hbox hb
         have n1_ := Aside0.mk (blk_below (g := gb107) (o := .cells #[.int .i64 0, .int .i64 0, .int .i64 0, .int .i64 0, .int .i64 0, .int .i64 0, .int .i64 0, .bool false, .int .i64 0, .int .i64 0] 50 (0, 0)) (by (with_reducible repeat (first | refine blk_drewN ?_ _ | refine blk_drew ?_ | refine blk_alloc ?_ _)); exact BK107.out) hb)
         have n2_ := Aside0.mk (KeepBut.trans (by repeat (first | (with_reducible first | exact HK.out | apply KeepBut.set_ | apply keep_drewN | apply keep_drew | apply keep_alloc | refine keep_far ?_ GW107.out _) | exact HK.out)) (KeepBut.of_below hb g none) (.inl rfl))
         have n3_ := Aside0.mk (below_step (by repeat (first | (with_reducible first | exact HB.out | apply below_alloc | apply pw_below_drewN | apply below_drew1 | refine below_set ?_ GE107.out) | exact HB.out)) hb)
         have n4_ := Aside0.mk (hbox)
         have n5_ := Aside0.mk ((by rw [hg]; exact (keep_size (w := w) (g := g) (row := none) (by repeat (first | (with_reducible first | exact HK.out | apply KeepBut.set_ | apply keep_drewN | apply keep_drew | apply keep_alloc | refine keep_far ?_ GW107.out _) | exact HK.out))) : w.heap.size ≤ gb138))
         have n6_ := Aside0.mk ((Nat.le_trans HW0.out (by rw [hg]; exact (keep_size (w := w) (g := g) (row := none) (by repeat (first | (with_reducible first | exact HK.out | apply KeepBut.set_ | apply keep_drewN | apply keep_drew | apply keep_alloc | refine keep_far ?_ GW107.out _) | exact HK.out))) : w.heap.size ≤ gb138) : w0.heap.size ≤ gb138))
         have n7_ := Aside0.mk ((by rw [hg]; exact Nat.ne_of_lt (blk_lt (g := gb107) (o := .cells #[.int .i64 0, .int .i64 0, .int .i64 0, .int .i64 0, .int .i64 0, .int .i64 0, .int .i64 0, .bool false, .int .i64 0, .int .i64 0] 50 (0, 0)) (by (with_reducible repeat (first | refine blk_drewN ?_ _ | refine blk_drew ?_ | refine blk_alloc ?_ _)); exact BK107.out)) : gb107 ≠ gb138))
         have n8_ := Aside0.mk ((by rw [hg]; exact Nat.ne_of_gt (blk_lt (g := gb107) (o := .cells #[.int .i64 0, .int .i64 0, .int .i64 0, .int .i64 0, .int .i64 0, .int .i64 0, .int .i64 0, .bool false, .int .i64 0, .int .i64 0] 50 (0, 0)) (by (with_reducible repeat (first | refine blk_drewN ?_ _ | refine blk_drew ?_ | refine blk_alloc ?_ _)); exact BK107.out)) : gb138 ≠ gb107))
         have n9_ := Aside0.mk ((by rw [hg]; exact Nat.ne_of_lt (Nat.lt_of_lt_of_le HG0.out (keep_size (w := w) (g := g) (row := none) (by repeat (first | (with_reducible first | exact HK.out | apply KeepBut.set_ | apply keep_drewN | apply keep_drew | apply keep_alloc | refine keep_far ?_ GW107.out _) | exact HK.out)))) : g ≠ gb138))
         have n10_ := Aside0.mk ((by rw [hg]; exact Nat.ne_of_gt (Nat.lt_of_lt_of_le HG0.out (keep_size (w := w) (g := g) (row := none) (by repeat (first | (with_reducible first | exact HK.out | apply KeepBut.set_ | apply keep_drewN | apply keep_drew | apply keep_alloc | refine keep_far ?_ GW107.out _) | exact HK.out)))) : gb138 ≠ g))
         have z_HI0 := fun (h0_ : b 1 = false) => (show IsS115 w0 w20 g s0_0 s0_1 from by first | exact (IsS115.below (by repeat (first | (with_reducible first | exact (Q_HI0 h0_) | apply IsS115.alloc | apply IsS115.drewN | apply IsS115.drew | apply IsS115.set_1 | refine IsS115.far ?_ NB0_107.out _) | exact (Q_HI0 h0_))) hb))
         have z_HI0_e1 := fun (h0_ : b 1 = true) (h1_ : b 4 = false) => (show IsS115 w0 w20 g s0_0 t109 from by first | exact (IsS115.below (by repeat (first | (with_reducible first | exact (Q_HI0_e1 h0_ h1_) | apply IsS115.alloc | apply IsS115.drewN | apply IsS115.drew | apply IsS115.set_1 | refine IsS115.far ?_ NB0_107.out _) | exact (Q_HI0_e1 h0_ h1_))) hb))
         have z_HI0_e4 := fun (h0_ : b 4 = true) (h1_ : b 7 = false) => (show IsS115 w0 w20 g s0_0 t111 from by first | exact (IsS115.below (by repeat (first | (with_reducible first | exact (Q_HI0_e4 h0_ h1_) | apply IsS115.alloc | apply IsS115.drewN | apply IsS115.drew | apply IsS115.set_1 | refine IsS115.far ?_ NB0_107.out _) | exact (Q_HI0_e4 h0_ h1_))) hb))
         have z_HI0_e7 := fun (h0_ : b 7 = true) (h1_ : b 11 = false) => (show IsS115 w0 w20 g s0_0 t113 from by first | exact (IsS115.below (by repeat (first | (with_reducible first | exact (Q_HI0_e7 h0_ h1_) | apply IsS115.alloc | apply IsS115.drewN | apply IsS115.drew | apply IsS115.set_1 | refine IsS115.far ?_ NB0_107.out _) | exact (Q_HI0_e7 h0_ h1_))) hb))
         have z_HO116 := fun (h0_ : b 9 = true) => (show Kd.R (Kd.int .i64) 3 w20 w.heap.size (fun _ => True) v115 y114 from by first | exact (Kd.R_below (by (with_reducible repeat (first | apply Kd.R_alloc | apply Kd.R_drewN | apply Kd.R_drew)); exact (Q_HO116 h0_)) hb) | exact Kd.R_mono (Kd.R_below (by (with_reducible repeat (first | apply Kd.R_alloc | apply Kd.R_drewN | apply Kd.R_drew)); exact (Q_HO116 h0_)) hb) (fun _ h_ => by first | trivial | exact h_ | exact h_.1))
         have z_HI0_e11 := fun (h0_ : b 11 = true) (h1_ : b 16 = false) => (show IsS115 w0 w20 g s0_0 t118 from by first | exact (IsS115.below (by repeat (first | (with_reducible first | exact (Q_HI0_e11 h0_ h1_) | apply IsS115.alloc | apply IsS115.drewN | apply IsS115.drew | apply IsS115.set_1 | refine IsS115.far ?_ NB0_107.out _) | exact (Q_HI0_e11 h0_ h1_))) hb))
         have z_HO122 := fun (h0_ : b 14 = true) => (show Kd.R (Kd.int .i64) 3 w20 w.heap.size (fun _ => True) v121 y120 from by first | exact (Kd.R_below (by (with_reducible repeat (first | apply Kd.R_alloc | apply Kd.R_drewN | apply Kd.R_drew)); exact (Q_HO122 h0_)) hb) | exact Kd.R_mono (Kd.R_below (by (with_reducible repeat (first | apply Kd.R_alloc | apply Kd.R_drewN | apply Kd.R_drew)); exact (Q_HO122 h0_)) hb) (fun _ h_ => by first | trivial | exact h_ | exact h_.1))
         have z_HI0_e16 := fun (h0_ : b 16 = true) (h1_ : b 20 = false) => (show IsS115 w0 w20 g s0_0 t124 from by first | exact (IsS115.below (by repeat (first | (with_reducible first | exact (Q_HI0_e16 h0_ h1_) | apply IsS115.alloc | apply IsS115.drewN | apply IsS115.drew | apply IsS115.set_1 | refine IsS115.far ?_ NB0_107.out _) | exact (Q_HI0_e16 h0_ h1_))) hb))
         have z_HI0_e20 := fun (h0_ : b 20 = true) (h1_ : b 23 = false) => (show IsS115 w0 w20 g s0_0 t127 from by first | exact (IsS115.below (by repeat (first | (with_reducible first | exact (Q_HI0_e20 h0_ h1_) | apply IsS115.alloc | apply IsS115.drewN | apply IsS115.drew | apply IsS115.set_1 | refine IsS115.far ?_ NB0_107.out _) | exact (Q_HI0_e20 h0_ h1_))) hb))
         have z_HI0_e23 := fun (h0_ : b 23 = true) (h1_ : b 27 = false) => (show IsS115 w0 w20 g s0_0 t129 from by first | exact (IsS115.below (by repeat (first | (with_reducible first | exact (Q_HI0_e23 h0_ h1_) | apply IsS115.alloc | apply IsS115.drewN | apply IsS115.drew | apply IsS115.set_1 | refine IsS115.far ?_ NB0_107.out _) | exact (Q_HI0_e23 h0_ h1_))) hb))
         have z_HO132 := fun (h0_ : b 25 = true) => (show Kd.R (Kd.int .i64) 3 w20 w.heap.size (fun _ => True) v131 y130 from by first | exact (Kd.R_below (by (with_reducible repeat (first | apply Kd.R_alloc | apply Kd.R_drewN | apply Kd.R_drew)); exact (Q_HO132 h0_)) hb) | exact Kd.R_mono (Kd.R_below (by (with_reducible repeat (first | apply Kd.R_alloc | apply Kd.R_drewN | apply Kd.R_drew)); exact (Q_HO132 h0_)) hb) (fun _ h_ => by first | trivial | exact h_ | exact h_.1))
         have z_HI0_e27 := fun (h0_ : b 27 = true) (h1_ : b 31 = false) => (show IsS115 w0 w20 g s0_0 t134 from by first | exact (IsS115.below (by repeat (first | (with_reducible first | exact (Q_HI0_e27 h0_ h1_) | apply IsS115.alloc | apply IsS115.drewN | apply IsS115.drew | apply IsS115.set_1 | refine IsS115.far ?_ NB0_107.out _) | exact (Q_HI0_e27 h0_ h1_))) hb))
         have z_HI0_e31 := fun (h0_ : b 31 = true) => (show IsS115 w0 w20 g s0_0 t137 from by first | exact (IsS115.below (by repeat (first | (with_reducible first | exact (Q_HI0_e31 h0_) | apply IsS115.alloc | apply IsS115.drewN | apply IsS115.drew | apply IsS115.set_1 | refine IsS115.far ?_ NB0_107.out _) | exact (Q_HI0_e31 h0_))) hb))
         clear BK107
         clear HK
         clear HB
         have BK107 := n1_
         have HK := n2_
         have HB := n3_
         have BK138 := n4_
         have GW138 := n5_
         have GE138 := n6_
         have NB107_138 := n7_
         have NB138_107 := n8_
         have NB0_138 := n9_
         have NB138_0 := n10_
         clear n1_ n2_ n3_ n4_ n5_ n6_ n7_ n8_ n9_ n10_
         clear hb hbox hg
         refine hK.out _ _ ⟨v115, adz_v115, v121, adz_v121, v131, adz_v131, gb138, m12_, m17_, m28_, (.pointer (some ⟨gb138, 0, none⟩)), (by rw [ha.out]; exact putSel_upk 25 hb_ rfl rfl rfl), (by (with_reducible repeat (first | refine blk_drewN ?_ _ | refine blk_drew ?_ | refine blk_alloc ?_ _)); exact BK107.out), z_HI0, (by repeat (first | (with_reducible first | exact HK.out | apply KeepBut.set_ | apply keep_drewN | apply keep_drew | apply keep_alloc | refine keep_far ?_ GW107.out _ | refine keep_far ?_ GW138.out _) | exact HK.out)), (by repeat (first | (with_reducible first | exact HB.out | apply below_alloc | apply pw_below_drewN | apply below_drew1 | refine below_set ?_ GE107.out | refine below_set ?_ GE138.out) | exact HB.out)), z_HI0_e1, z_HI0_e4, z_HI0_e7, z_HO116, Q_HA_HO116, z_HI0_e11, z_HO122, Q_HA_HO122, z_HI0_e16, z_HI0_e20, z_HI0_e23, z_HO132, Q_HA_HO132, z_HI0_e27, z_HI0_e31, fun _ _ => (by (with_reducible repeat (first | refine blk_drewN ?_ _ | refine blk_drew ?_ | refine blk_alloc ?_ _)); exact BK138.out), fun _ => GW138.out, fun _ => GE138.out, fun _ => NB0_138.out, fun _ => NB138_0.out, fun _ => NB107_138.out, fun _ => NB138_107.out, fun h0_ => absurd ((hoff 35 (by kernel_rfl)).symm.trans h0_) (by decide), Q_X12_, Q_X17_, Q_X28_, fun _ => rfl⟩
        refine steps_cons ?_ ?_
        ·rintro b a w' ⟨v115, adz_v115, v121, adz_v121, v131, adz_v131, gb138, m12_, m17_, m28_, m34_, ha, Q_BK107, Q_HI0, Q_HK, Q_HB, Q_HI0_e1, Q_HI0_e4, Q_HI0_e7, Q_HO116, Q_HA_HO116, Q_HI0_e11, Q_HO122, Q_HA_HO122, Q_HI0_e16, Q_HI0_e20, Q_HI0_e23, Q_HO132, Q_HA_HO132, Q_HI0_e27, Q_HI0_e31, Q_BK138, Q_GW138, Q_GE138, Q_NB0_138, Q_NB138_0, Q_NB107_138, Q_NB138_107, Q_BK138_e35, Q_X12_, Q_X17_, Q_X28_, Q_X34_⟩ hb_ hon hoff
         refine ⟨_, rfl, fun K hK => ?_⟩
         have e3 : a.tmps[3]? = some (m34_) := by rw [ha]; exact putSel_on (e := (34, 3, m34_)) 25 rfl rfl (hon 34 (by kernel_rfl)) rfl
         rw [Q_X34_ (hon 34 (by kernel_rfl))] at e3
         have e37 : a.tmps[37]? = some (.agg #[.int .i64 (wrap64 (1 + t108)), .int .i64 (wrap64 (1 + t110)), .int .i64 (wrap64 (1 + t112)), .int .i64 (rd y114 t117), .int .i64 0, .int .i64 (rd y120 t123), .int .i64 (wrap64 (1 + t126)), .bool (t128 == 0), .int .i64 (rd y130 t133), .int .i64 (wrap64 (1 + t136))]) := by rw [ha]; exact putSel_on (e := (33, 37, .agg #[.int .i64 (wrap64 (1 + t108)), .int .i64 (wrap64 (1 + t110)), .int .i64 (wrap64 (1 + t112)), .int .i64 (rd y114 t117), .int .i64 0, .int .i64 (rd y120 t123), .int .i64 (wrap64 (1 + t126)), .bool (t128 == 0), .int .i64 (rd y130 t133), .int .i64 (wrap64 (1 + t136))])) 24 rfl rfl (hon 33 (by kernel_rfl)) rfl
         replace ha := Aside0.mk ha
         have BK107 := Aside0.mk Q_BK107
         have HK := Aside0.mk Q_HK
         have HB := Aside0.mk Q_HB
         have HO116 := Aside0.mk (Q_HO116 (hon 9 (by kernel_rfl)))
         have HA_HO116 := Aside0.mk (Q_HA_HO116 (hon 9 (by kernel_rfl)))
         have HO122 := Aside0.mk (Q_HO122 (hon 14 (by kernel_rfl)))
         have HA_HO122 := Aside0.mk (Q_HA_HO122 (hon 14 (by kernel_rfl)))
         have HO132 := Aside0.mk (Q_HO132 (hon 25 (by kernel_rfl)))
         have HA_HO132 := Aside0.mk (Q_HA_HO132 (hon 25 (by kernel_rfl)))
         have HI0 := Aside0.mk (Q_HI0_e31 (hon 31 (by kernel_rfl)))
         have BK138 := Aside0.mk (Q_BK138 (hon 34 (by kernel_rfl)) hb_)
         have GW138 := Aside0.mk (Q_GW138 (hon 34 (by kernel_rfl)))
         have GE138 := Aside0.mk (Q_GE138 (hon 34 (by kernel_rfl)))
         have NB0_138 := Aside0.mk (Q_NB0_138 (hon 34 (by kernel_rfl)))
         have NB138_0 := Aside0.mk (Q_NB138_0 (hon 34 (by kernel_rfl)))
         have NB107_138 := Aside0.mk (Q_NB107_138 (hon 34 (by kernel_rfl)))
         have NB138_107 := Aside0.mk (Q_NB138_107 (hon 34 (by kernel_rfl)))
         obtain ⟨co40, eo40⟩ := HA_HO116.out
         clear HA_HO116
         subst eo40
         obtain ⟨co41, eo41⟩ := HA_HO122.out
         clear HA_HO122
         subst eo41
         obtain ⟨co42, eo42⟩ := HA_HO132.out
         clear HA_HO132
         subst eo42
         have hs43 : w'.cell? ⟨gb138, 0, none⟩ = some (.int .i64 0) := (blk_cell BK138.out 0).trans rfl
         have hfs43 := blk_frozen BK138.out 0
         have hns43_0 := NB107_138.out
         have hms43_0 := NB138_107.out
         have hs44 : w'.cell? ⟨gb138, 1, none⟩ = some (.int .i64 0) := (blk_cell BK138.out 1).trans rfl
         have hfs44 := blk_frozen BK138.out 1
         have hns44_0 := NB107_138.out
         have hms44_0 := NB138_107.out
         have hs45 : w'.cell? ⟨gb138, 2, none⟩ = some (.int .i64 0) := (blk_cell BK138.out 2).trans rfl
         have hfs45 := blk_frozen BK138.out 2
         have hns45_0 := NB107_138.out
         have hms45_0 := NB138_107.out
         have hs46 : w'.cell? ⟨gb138, 3, none⟩ = some (.int .i64 0) := (blk_cell BK138.out 3).trans rfl
         have hfs46 := blk_frozen BK138.out 3
         have hns46_0 := NB107_138.out
         have hms46_0 := NB138_107.out
         have hs47 : w'.cell? ⟨gb138, 4, none⟩ = some (.int .i64 0) := (blk_cell BK138.out 4).trans rfl
         have hfs47 := blk_frozen BK138.out 4
         have hns47_0 := NB107_138.out
         have hms47_0 := NB138_107.out
         have hs48 : w'.cell? ⟨gb138, 5, none⟩ = some (.int .i64 0) := (blk_cell BK138.out 5).trans rfl
         have hfs48 := blk_frozen BK138.out 5
         have hns48_0 := NB107_138.out
         have hms48_0 := NB138_107.out
         have hs49 : w'.cell? ⟨gb138, 6, none⟩ = some (.int .i64 0) := (blk_cell BK138.out 6).trans rfl
         have hfs49 := blk_frozen BK138.out 6
         have hns49_0 := NB107_138.out
         have hms49_0 := NB138_107.out
         have hs50 : w'.cell? ⟨gb138, 7, none⟩ = some (.bool false) := (blk_cell BK138.out 7).trans rfl
         have hfs50 := blk_frozen BK138.out 7
         have hns50_0 := NB107_138.out
         have hms50_0 := NB138_107.out
         have hs51 : w'.cell? ⟨gb138, 8, none⟩ = some (.int .i64 0) := (blk_cell BK138.out 8).trans rfl
         have hfs51 := blk_frozen BK138.out 8
         have hns51_0 := NB107_138.out
         have hms51_0 := NB138_107.out
         have hs52 : w'.cell? ⟨gb138, 9, none⟩ = some (.int .i64 0) := (blk_cell BK138.out 9).trans rfl
         have hfs52 := blk_frozen BK138.out 9
         have hns52_0 := NB107_138.out
         have hms52_0 := NB138_107.out
         refine skip_ (w1 := ?_) (by rfl) rfl ?_ ?_
         rotate_left
         ·go_simp
          rfl
         refine hK.out _ _ ⟨.slice (some adz_v115) y114.length co40, adz_v115, .slice (some adz_v121) y120.length co41, adz_v121, .slice (some adz_v131) y130.length co42, adz_v131, gb138, m12_, m17_, m28_, m34_, (by rw [ha.out]; exact putSel_none (v := undef) rfl), (by (with_reducible repeat (first | refine blk_drewN ?_ _ | refine blk_drew ?_ | refine blk_alloc ?_ _)); refine blk_far ?_ NB107_138.out _; (with_reducible repeat (first | refine blk_drewN ?_ _ | refine blk_drew ?_ | refine blk_alloc ?_ _)); refine blk_far ?_ NB107_138.out _; (with_reducible repeat (first | refine blk_drewN ?_ _ | refine blk_drew ?_ | refine blk_alloc ?_ _)); refine blk_far ?_ NB107_138.out _; (with_reducible repeat (first | refine blk_drewN ?_ _ | refine blk_drew ?_ | refine blk_alloc ?_ _)); refine blk_far ?_ NB107_138.out _; (with_reducible repeat (first | refine blk_drewN ?_ _ | refine blk_drew ?_ | refine blk_alloc ?_ _)); refine blk_far ?_ NB107_138.out _; (with_reducible repeat (first | refine blk_drewN ?_ _ | refine blk_drew ?_ | refine blk_alloc ?_ _)); refine blk_far ?_ NB107_138.out _; (with_reducible repeat (first | refine blk_drewN ?_ _ | refine blk_drew ?_ | refine blk_alloc ?_ _)); refine blk_far ?_ NB107_138.out _; (with_reducible repeat (first | refine blk_drewN ?_ _ | refine blk_drew ?_ | refine blk_alloc ?_ _)); refine blk_far ?_ NB107_138.out _; (with_reducible repeat (first | refine blk_drewN ?_ _ | refine blk_drew ?_ | refine blk_alloc ?_ _)); refine blk_far ?_ NB107_138.out _; (with_reducible repeat (first | refine blk_drewN ?_ _ | refine blk_drew ?_ | refine blk_alloc ?_ _)); refine blk_far ?_ NB107_138.out _; (with_reducible repeat (first | refine blk_drewN ?_ _ | refine blk_drew ?_ | refine blk_alloc ?_ _)); exact BK107.out), fun h0_ => absurd ((hon 1 (by kernel_rfl)).symm.trans h0_) (by decide), (by repeat (first | (with_reducible first | exact HK.out | apply KeepBut.set_ | apply keep_drewN | apply keep_drew | apply keep_alloc | refine keep_far ?_ GW107.out _ | refine keep_far ?_ GW138.out _) | exact HK.out)), (by repeat (first | (with_reducible first | exact HB.out | apply below_alloc | apply pw_below_drewN | apply below_drew1 | refine below_set ?_ (IsS115.ge HI0.out) | refine below_set ?_ GE107.out | refine below_set ?_ GE138.out) | exact HB.out)), fun _ h1_ => absurd ((hon 4 (by kernel_rfl)).symm.trans h1_) (by decide), fun _ h1_ => absurd ((hon 7 (by kernel_rfl)).symm.trans h1_) (by decide), fun _ h1_ => absurd ((hon 11 (by kernel_rfl)).symm.trans h1_) (by decide), fun _ => (by (with_reducible repeat (first | apply Kd.R_alloc | apply Kd.R_drewN | apply Kd.R_drew)); exact Kd.R_mono (Kd.R_far (p := ⟨gb138, 9, none⟩) (Kd.R_far (p := ⟨gb138, 8, none⟩) (Kd.R_far (p := ⟨gb138, 7, none⟩) (Kd.R_far (p := ⟨gb138, 6, none⟩) (Kd.R_far (p := ⟨gb138, 5, none⟩) (Kd.R_far (p := ⟨gb138, 4, none⟩) (Kd.R_far (p := ⟨gb138, 3, none⟩) (Kd.R_far (p := ⟨gb138, 2, none⟩) (Kd.R_far (p := ⟨gb138, 1, none⟩) (Kd.R_far (p := ⟨gb138, 0, none⟩) (Kd.R_types HO116.out BK138.out (by decide)) (fun _ hk => by first | exact hk.2 | trivial) (.int .i64 (wrap64 (1 + t108)))) (fun _ hk => by first | exact hk.2 | trivial) (.int .i64 (wrap64 (1 + t110)))) (fun _ hk => by first | exact hk.2 | trivial) (.int .i64 (wrap64 (1 + t112)))) (fun _ hk => by first | exact hk.2 | trivial) (.int .i64 (rd y114 t117))) (fun _ hk => by first | exact hk.2 | trivial) (.int .i64 0)) (fun _ hk => by first | exact hk.2 | trivial) (.int .i64 (rd y120 t123))) (fun _ hk => by first | exact hk.2 | trivial) (.int .i64 (wrap64 (1 + t126)))) (fun _ hk => by first | exact hk.2 | trivial) (.bool (t128 == 0))) (fun _ hk => by first | exact hk.2 | trivial) (.int .i64 (rd y130 t133))) (fun _ hk => by first | exact hk.2 | trivial) (.int .i64 (wrap64 (1 + t136)))) (fun _ hk => by first | exact ⟨hk.1.1, hk.1.2⟩ | trivial)), fun _ => ⟨_, rfl⟩, fun _ h1_ => absurd ((hon 16 (by kernel_rfl)).symm.trans h1_) (by decide), fun _ => (by (with_reducible repeat (first | apply Kd.R_alloc | apply Kd.R_drewN | apply Kd.R_drew)); exact Kd.R_mono (Kd.R_far (p := ⟨gb138, 9, none⟩) (Kd.R_far (p := ⟨gb138, 8, none⟩) (Kd.R_far (p := ⟨gb138, 7, none⟩) (Kd.R_far (p := ⟨gb138, 6, none⟩) (Kd.R_far (p := ⟨gb138, 5, none⟩) (Kd.R_far (p := ⟨gb138, 4, none⟩) (Kd.R_far (p := ⟨gb138, 3, none⟩) (Kd.R_far (p := ⟨gb138, 2, none⟩) (Kd.R_far (p := ⟨gb138, 1, none⟩) (Kd.R_far (p := ⟨gb138, 0, none⟩) (Kd.R_types HO122.out BK138.out (by decide)) (fun _ hk => by first | exact hk.2 | trivial) (.int .i64 (wrap64 (1 + t108)))) (fun _ hk => by first | exact hk.2 | trivial) (.int .i64 (wrap64 (1 + t110)))) (fun _ hk => by first | exact hk.2 | trivial) (.int .i64 (wrap64 (1 + t112)))) (fun _ hk => by first | exact hk.2 | trivial) (.int .i64 (rd y114 t117))) (fun _ hk => by first | exact hk.2 | trivial) (.int .i64 0)) (fun _ hk => by first | exact hk.2 | trivial) (.int .i64 (rd y120 t123))) (fun _ hk => by first | exact hk.2 | trivial) (.int .i64 (wrap64 (1 + t126)))) (fun _ hk => by first | exact hk.2 | trivial) (.bool (t128 == 0))) (fun _ hk => by first | exact hk.2 | trivial) (.int .i64 (rd y130 t133))) (fun _ hk => by first | exact hk.2 | trivial) (.int .i64 (wrap64 (1 + t136)))) (fun _ hk => by first | exact ⟨hk.1.1, hk.1.2⟩ | trivial)), fun _ => ⟨_, rfl⟩, fun _ h1_ => absurd ((hon 20 (by kernel_rfl)).symm.trans h1_) (by decide), fun _ h1_ => absurd ((hon 23 (by kernel_rfl)).symm.trans h1_) (by decide), fun _ h1_ => absurd ((hon 27 (by kernel_rfl)).symm.trans h1_) (by decide), fun _ => (by (with_reducible repeat (first | apply Kd.R_alloc | apply Kd.R_drewN | apply Kd.R_drew)); exact Kd.R_mono (Kd.R_far (p := ⟨gb138, 9, none⟩) (Kd.R_far (p := ⟨gb138, 8, none⟩) (Kd.R_far (p := ⟨gb138, 7, none⟩) (Kd.R_far (p := ⟨gb138, 6, none⟩) (Kd.R_far (p := ⟨gb138, 5, none⟩) (Kd.R_far (p := ⟨gb138, 4, none⟩) (Kd.R_far (p := ⟨gb138, 3, none⟩) (Kd.R_far (p := ⟨gb138, 2, none⟩) (Kd.R_far (p := ⟨gb138, 1, none⟩) (Kd.R_far (p := ⟨gb138, 0, none⟩) (Kd.R_types HO132.out BK138.out (by decide)) (fun _ hk => by first | exact hk.2 | trivial) (.int .i64 (wrap64 (1 + t108)))) (fun _ hk => by first | exact hk.2 | trivial) (.int .i64 (wrap64 (1 + t110)))) (fun _ hk => by first | exact hk.2 | trivial) (.int .i64 (wrap64 (1 + t112)))) (fun _ hk => by first | exact hk.2 | trivial) (.int .i64 (rd y114 t117))) (fun _ hk => by first | exact hk.2 | trivial) (.int .i64 0)) (fun _ hk => by first | exact hk.2 | trivial) (.int .i64 (rd y120 t123))) (fun _ hk => by first | exact hk.2 | trivial) (.int .i64 (wrap64 (1 + t126)))) (fun _ hk => by first | exact hk.2 | trivial) (.bool (t128 == 0))) (fun _ hk => by first | exact hk.2 | trivial) (.int .i64 (rd y130 t133))) (fun _ hk => by first | exact hk.2 | trivial) (.int .i64 (wrap64 (1 + t136)))) (fun _ hk => by first | exact ⟨hk.1.1, hk.1.2⟩ | trivial)), fun _ => ⟨_, rfl⟩, fun _ h1_ => absurd ((hon 31 (by kernel_rfl)).symm.trans h1_) (by decide), fun _ => (by repeat (first | (with_reducible first | exact HI0.out | apply IsS115.alloc | apply IsS115.drewN | apply IsS115.drew | apply IsS115.set_1 | refine IsS115.far ?_ NB0_107.out _ | refine IsS115.far ?_ NB0_138.out _) | exact HI0.out)), fun _ h1_ => absurd ((up_self b 35).symm.trans h1_) (by decide), fun _ => GW138.out, fun _ => GE138.out, fun _ => NB0_138.out, fun _ => NB138_0.out, fun _ => NB107_138.out, fun _ => NB138_107.out, fun _ => (by (with_reducible repeat (first | refine blk_drewN ?_ _ | refine blk_drew ?_ | refine blk_alloc ?_ _)); refine blk_put (cs := #[.int .i64 (wrap64 (1 + t108)), .int .i64 (wrap64 (1 + t110)), .int .i64 (wrap64 (1 + t112)), .int .i64 (rd y114 t117), .int .i64 0, .int .i64 (rd y120 t123), .int .i64 (wrap64 (1 + t126)), .bool (t128 == 0), .int .i64 (rd y130 t133), .int .i64 0]) ?_ 9 _ rfl; (with_reducible repeat (first | refine blk_drewN ?_ _ | refine blk_drew ?_ | refine blk_alloc ?_ _)); refine blk_put (cs := #[.int .i64 (wrap64 (1 + t108)), .int .i64 (wrap64 (1 + t110)), .int .i64 (wrap64 (1 + t112)), .int .i64 (rd y114 t117), .int .i64 0, .int .i64 (rd y120 t123), .int .i64 (wrap64 (1 + t126)), .bool (t128 == 0), .int .i64 0, .int .i64 0]) ?_ 8 _ rfl; (with_reducible repeat (first | refine blk_drewN ?_ _ | refine blk_drew ?_ | refine blk_alloc ?_ _)); refine blk_put (cs := #[.int .i64 (wrap64 (1 + t108)), .int .i64 (wrap64 (1 + t110)), .int .i64 (wrap64 (1 + t112)), .int .i64 (rd y114 t117), .int .i64 0, .int .i64 (rd y120 t123), .int .i64 (wrap64 (1 + t126)), .bool false, .int .i64 0, .int .i64 0]) ?_ 7 _ rfl; (with_reducible repeat (first | refine blk_drewN ?_ _ | refine blk_drew ?_ | refine blk_alloc ?_ _)); refine blk_put (cs := #[.int .i64 (wrap64 (1 + t108)), .int .i64 (wrap64 (1 + t110)), .int .i64 (wrap64 (1 + t112)), .int .i64 (rd y114 t117), .int .i64 0, .int .i64 (rd y120 t123), .int .i64 0, .bool false, .int .i64 0, .int .i64 0]) ?_ 6 _ rfl; (with_reducible repeat (first | refine blk_drewN ?_ _ | refine blk_drew ?_ | refine blk_alloc ?_ _)); refine blk_put (cs := #[.int .i64 (wrap64 (1 + t108)), .int .i64 (wrap64 (1 + t110)), .int .i64 (wrap64 (1 + t112)), .int .i64 (rd y114 t117), .int .i64 0, .int .i64 0, .int .i64 0, .bool false, .int .i64 0, .int .i64 0]) ?_ 5 _ rfl; (with_reducible repeat (first | refine blk_drewN ?_ _ | refine blk_drew ?_ | refine blk_alloc ?_ _)); refine blk_put (cs := #[.int .i64 (wrap64 (1 + t108)), .int .i64 (wrap64 (1 + t110)), .int .i64 (wrap64 (1 + t112)), .int .i64 (rd y114 t117), .int .i64 0, .int .i64 0, .int .i64 0, .bool false, .int .i64 0, .int .i64 0]) ?_ 4 _ rfl; (with_reducible repeat (first | refine blk_drewN ?_ _ | refine blk_drew ?_ | refine blk_alloc ?_ _)); refine blk_put (cs := #[.int .i64 (wrap64 (1 + t108)), .int .i64 (wrap64 (1 + t110)), .int .i64 (wrap64 (1 + t112)), .int .i64 0, .int .i64 0, .int .i64 0, .int .i64 0, .bool false, .int .i64 0, .int .i64 0]) ?_ 3 _ rfl; (with_reducible repeat (first | refine blk_drewN ?_ _ | refine blk_drew ?_ | refine blk_alloc ?_ _)); refine blk_put (cs := #[.int .i64 (wrap64 (1 + t108)), .int .i64 (wrap64 (1 + t110)), .int .i64 0, .int .i64 0, .int .i64 0, .int .i64 0, .int .i64 0, .bool false, .int .i64 0, .int .i64 0]) ?_ 2 _ rfl; (with_reducible repeat (first | refine blk_drewN ?_ _ | refine blk_drew ?_ | refine blk_alloc ?_ _)); refine blk_put (cs := #[.int .i64 (wrap64 (1 + t108)), .int .i64 0, .int .i64 0, .int .i64 0, .int .i64 0, .int .i64 0, .int .i64 0, .bool false, .int .i64 0, .int .i64 0]) ?_ 1 _ rfl; (with_reducible repeat (first | refine blk_drewN ?_ _ | refine blk_drew ?_ | refine blk_alloc ?_ _)); refine blk_put (cs := #[.int .i64 0, .int .i64 0, .int .i64 0, .int .i64 0, .int .i64 0, .int .i64 0, .int .i64 0, .bool false, .int .i64 0, .int .i64 0]) ?_ 0 _ rfl; (with_reducible repeat (first | refine blk_drewN ?_ _ | refine blk_drew ?_ | refine blk_alloc ?_ _)); exact BK138.out), Q_X12_, Q_X17_, Q_X28_, Q_X34_⟩
        exact steps_nil
       rintro b a w49 hall ⟨v115, adz_v115, v121, adz_v121, v131, adz_v131, gb138, m12_, m17_, m28_, m34_, ha, Q_BK107, Q_HI0, Q_HK, Q_HB, Q_HI0_e1, Q_HI0_e4, Q_HI0_e7, Q_HO116, Q_HA_HO116, Q_HI0_e11, Q_HO122, Q_HA_HO122, Q_HI0_e16, Q_HI0_e20, Q_HI0_e23, Q_HO132, Q_HA_HO132, Q_HI0_e27, Q_HI0_e31, Q_BK138, Q_GW138, Q_GE138, Q_NB0_138, Q_NB138_0, Q_NB107_138, Q_NB138_107, Q_BK138_e35, Q_X12_, Q_X17_, Q_X28_, Q_X34_⟩
       clear BK107 HB HI0 HK
       have hb1_ := hall 1 (by kernel_rfl)
       have hb2_ := hall 2 (by kernel_rfl)
       have hb4_ := hall 4 (by kernel_rfl)
       have hb5_ := hall 5 (by kernel_rfl)
       have hb7_ := hall 7 (by kernel_rfl)
       have hb8_ := hall 8 (by kernel_rfl)
       have hb9_ := hall 9 (by kernel_rfl)
       have hb11_ := hall 11 (by kernel_rfl)
       have hb12_ := hall 12 (by kernel_rfl)
       have hb13_ := hall 13 (by kernel_rfl)
       have hb14_ := hall 14 (by kernel_rfl)
       have hb16_ := hall 16 (by kernel_rfl)
       have hb17_ := hall 17 (by kernel_rfl)
       have hb18_ := hall 18 (by kernel_rfl)
       have hb20_ := hall 20 (by kernel_rfl)
       have hb21_ := hall 21 (by kernel_rfl)
       have hb23_ := hall 23 (by kernel_rfl)
       have hb24_ := hall 24 (by kernel_rfl)
       have hb25_ := hall 25 (by kernel_rfl)
       have hb27_ := hall 27 (by kernel_rfl)
       have hb28_ := hall 28 (by kernel_rfl)
       have hb29_ := hall 29 (by kernel_rfl)
       have hb31_ := hall 31 (by kernel_rfl)
       have hb32_ := hall 32 (by kernel_rfl)
       have hb33_ := hall 33 (by kernel_rfl)
       have hb34_ := hall 34 (by kernel_rfl)
       have hb35_ := hall 35 (by kernel_rfl)
       subst ha
       obtain rfl := Q_X12_ hb12_
       obtain rfl := Q_X17_ hb17_
       obtain rfl := Q_X28_ hb28_
       obtain rfl := Q_X34_ hb34_
       simp only [putSel, hb1_, hb2_, hb4_, hb5_, hb7_, hb8_, hb9_, hb11_, hb12_, hb13_, hb14_, hb16_, hb17_, hb18_, hb20_, hb21_, hb23_, hb24_, hb25_, hb27_, hb28_, hb29_, hb31_, hb32_, hb33_, hb34_, hb35_, if_true, Act.put, List.setIfInBounds_toArray, List.set_cons_zero, List.set_cons_succ]
       have BK107 := Aside0.mk Q_BK107
       clear Q_BK107
       clear Q_HI0
       have HK := Aside0.mk Q_HK
       clear Q_HK
       have HB := Aside0.mk Q_HB
       clear Q_HB
       clear Q_HI0_e1
       clear Q_HI0_e4
       clear Q_HI0_e7
       have HO116 := Aside0.mk (Q_HO116 hb9_)
       clear Q_HO116
       have HA_HO116 := Aside0.mk (Q_HA_HO116 hb9_)
       clear Q_HA_HO116
       clear Q_HI0_e11
       have HO122 := Aside0.mk (Q_HO122 hb14_)
       clear Q_HO122
       have HA_HO122 := Aside0.mk (Q_HA_HO122 hb14_)
       clear Q_HA_HO122
       clear Q_HI0_e16
       clear Q_HI0_e20
       clear Q_HI0_e23
       have HO132 := Aside0.mk (Q_HO132 hb25_)
       clear Q_HO132
       have HA_HO132 := Aside0.mk (Q_HA_HO132 hb25_)
       clear Q_HA_HO132
       clear Q_HI0_e27
       have HI0 := Aside0.mk (Q_HI0_e31 hb31_)
       clear Q_HI0_e31
       clear Q_BK138
       have GW138 := Aside0.mk (Q_GW138 hb34_)
       clear Q_GW138
       have GE138 := Aside0.mk (Q_GE138 hb34_)
       clear Q_GE138
       have NB0_138 := Aside0.mk (Q_NB0_138 hb34_)
       clear Q_NB0_138
       have NB138_0 := Aside0.mk (Q_NB138_0 hb34_)
       clear Q_NB138_0
       have NB107_138 := Aside0.mk (Q_NB107_138 hb34_)
       clear Q_NB107_138
       have NB138_107 := Aside0.mk (Q_NB138_107 hb34_)
       clear Q_NB138_107
       have BK138 := Aside0.mk (Q_BK138_e35 hb35_)
       clear Q_BK138_e35
       clear hall hb1_ hb2_ hb4_ hb5_ hb7_ hb8_ hb9_ hb11_ hb12_ hb13_ hb14_ hb16_ hb17_ hb18_ hb20_ hb21_ hb23_ hb24_ hb25_ hb27_ hb28_ hb29_ hb31_ hb32_ hb33_ hb34_ hb35_
       obtain ⟨co50, eo50⟩ := HA_HO116.out
       clear HA_HO116
       subst eo50
       obtain ⟨co51, eo51⟩ := HA_HO122.out
       clear HA_HO122
       subst eo51
       obtain ⟨co52, eo52⟩ := HA_HO132.out
       clear HA_HO132
       subst eo52
       have hnb53 := NB138_107.out
       have hnc53 := NB107_138.out
       have hnb54 := NB138_0.out
       have hnc54 := NB0_138.out
       have hcz55_0 : w49.cell? ⟨gb138, 0, none⟩ = some (.int .i64 (wrap64 (1 + t108))) := (blk_cell BK138.out 0).trans rfl
       have hcz55_1 : w49.cell? ⟨gb138, 1, none⟩ = some (.int .i64 (wrap64 (1 + t110))) := (blk_cell BK138.out 1).trans rfl
       have hcz55_2 : w49.cell? ⟨gb138, 2, none⟩ = some (.int .i64 (wrap64 (1 + t112))) := (blk_cell BK138.out 2).trans rfl
       have hcz55_3 : w49.cell? ⟨gb138, 3, none⟩ = some (.int .i64 (rd y114 t117)) := (blk_cell BK138.out 3).trans rfl
       have hcz55_4 : w49.cell? ⟨gb138, 4, none⟩ = some (.int .i64 0) := (blk_cell BK138.out 4).trans rfl
       have hcz55_5 : w49.cell? ⟨gb138, 5, none⟩ = some (.int .i64 (rd y120 t123)) := (blk_cell BK138.out 5).trans rfl
       have hcz55_6 : w49.cell? ⟨gb138, 6, none⟩ = some (.int .i64 (wrap64 (1 + t126))) := (blk_cell BK138.out 6).trans rfl
       have hcz55_7 : w49.cell? ⟨gb138, 7, none⟩ = some (.bool (t128 == 0)) := (blk_cell BK138.out 7).trans rfl
       have hcz55_8 : w49.cell? ⟨gb138, 8, none⟩ = some (.int .i64 (rd y130 t133)) := (blk_cell BK138.out 8).trans rfl
       have hcz55_9 : w49.cell? ⟨gb138, 9, none⟩ = some (.int .i64 (wrap64 (1 + t136))) := (blk_cell BK138.out 9).trans rfl
       have hfz55_0 := blk_frozen BK138.out 0
       have hfz55_1 := blk_frozen BK138.out 1
       have hfz55_2 := blk_frozen BK138.out 2
       have hfz55_3 := blk_frozen BK138.out 3
       have hfz55_4 := blk_frozen BK138.out 4
       have hfz55_5 := blk_frozen BK138.out 5
       have hfz55_6 := blk_frozen BK138.out 6
       have hfz55_7 := blk_frozen BK138.out 7
       have hfz55_8 := blk_frozen BK138.out 8
       have hfz55_9 := blk_frozen BK138.out 9
       go_upto_if 40 with (fail)
       go_cut [] (fun wc => ∃ (kq : Nat) (x1001_16 : Int) (x139004_16 : Int), Aside0 (spec_l20Job.j2 kq s0_0 x1001_16 (wrap64 (1 + t108)) (wrap64 (1 + t110)) (wrap64 (1 + t112)) (rd y114 t117) x139004_16 (rd y120 t123) (wrap64 (1 + t126)) (t128 == 0) (rd y130 t133) (wrap64 (1 + t136)) = some (r1, r2, r3, r4, r5, r6, r7, r8, r9, r10, r11)) ∧ Aside0 (kq ≤ k) ∧ Aside0 (wc.heap[gb107]? = some (.cells #[.int .i64 0, .int .i64 0, .int .i64 0, .int .i64 0, .int .i64 0, .int .i64 0, .int .i64 0, .bool false, .int .i64 0, .int .i64 0] 50 (0, 0))) ∧ Aside0 (wc.heap[gb138]? = some (.cells #[.int .i64 (wrap64 (1 + t108)), .int .i64 (wrap64 (1 + t110)), .int .i64 (wrap64 (1 + t112)), .int .i64 (rd y114 t117), .int .i64 x139004_16, .int .i64 (rd y120 t123), .int .i64 (wrap64 (1 + t126)), .bool (t128 == 0), .int .i64 (rd y130 t133), .int .i64 (wrap64 (1 + t136))] 50 (0, 0))) ∧ Aside0 (IsS115 w0 wc g s0_0 x1001_16) ∧ Aside0 (KeepBut w wc g none) ∧ Aside0 (Below w0.heap.size w0 wc))
       case first =>
        have H := HC17.out
        clear HC17
        by_cases c56 : (wrap64 (1 + t112)) = 2
        ·rw [if_pos c56] at H
         have c56b0 : ((wrap64 (1 + t112)) == 2) = true := beq_iff_eq.mpr c56
         have c56b1 : ((wrap64 (1 + t112)) != 2) = false := bne_eq_false_iff_eq.mpr c56
         clear c56
         (first | rw [c56b0] | (simp only [i64_w, i32_w]; rw [c56b0]) | skip)
         replace H := Option.bind_eq_some_iff.mp H
         obtain ⟨⟨t139, t140⟩, A570, H⟩ := H
         replace H : ((spec_l20Rd_pick.f k s0_0 t140 4).bind fun bt141 => (if (wrap64 (1 + bt141.1)) = 0 then (none) else (if (wrap64 (Int.tdiv (wrap64 ((rd y114 t117) + t139)) (wrap64 (1 + bt141.1)))) < 1 then (spec_l20Job.j0 k true s0_0 bt141.2 (wrap64 (1 + t108)) (wrap64 (1 + t110)) (wrap64 (1 + t112)) (rd y114 t117) (wrap64 (Int.tdiv (wrap64 ((rd y114 t117) + t139)) (wrap64 (1 + bt141.1)))) (rd y120 t123) (wrap64 (1 + t126)) (t128 == 0) (rd y130 t133) (wrap64 (1 + t136))) else (if (wrap64 (4 * (wrap64 (Int.tdiv (wrap64 ((rd y114 t117) + t139)) (wrap64 (1 + bt141.1)))))) < (rd y114 t117) then (spec_l20Job.j0 k true s0_0 bt141.2 (wrap64 (1 + t108)) (wrap64 (1 + t110)) (wrap64 (1 + t112)) (rd y114 t117) (wrap64 (Int.tdiv (wrap64 ((rd y114 t117) + t139)) (wrap64 (1 + bt141.1)))) (rd y120 t123) (wrap64 (1 + t126)) (t128 == 0) (rd y130 t133) (wrap64 (1 + t136))) else (spec_l20Job.j0 k (decide ((wrap64 (Int.tdiv (wrap64 ((rd y114 t117) + t139)) (wrap64 (1 + bt141.1)))) > (rd y114 t117))) s0_0 bt141.2 (wrap64 (1 + t108)) (wrap64 (1 + t110)) (wrap64 (1 + t112)) (rd y114 t117) (wrap64 (Int.tdiv (wrap64 ((rd y114 t117) + t139)) (wrap64 (1 + bt141.1)))) (rd y120 t123) (wrap64 (1 + t126)) (t128 == 0) (rd y130 t133) (wrap64 (1 + t136))))))) = some (r1, r2, r3, r4, r5, r6, r7, r8, r9, r10, r11) := H
         have A57 := Aside0.mk A570
         clear A570
         replace H := Option.bind_eq_some_iff.mp H
         obtain ⟨⟨t141, t142⟩, A580, H⟩ := H
         replace H : (if (wrap64 (1 + t141)) = 0 then (none) else (if (wrap64 (Int.tdiv (wrap64 ((rd y114 t117) + t139)) (wrap64 (1 + t141)))) < 1 then (spec_l20Job.j0 k true s0_0 t142 (wrap64 (1 + t108)) (wrap64 (1 + t110)) (wrap64 (1 + t112)) (rd y114 t117) (wrap64 (Int.tdiv (wrap64 ((rd y114 t117) + t139)) (wrap64 (1 + t141)))) (rd y120 t123) (wrap64 (1 + t126)) (t128 == 0) (rd y130 t133) (wrap64 (1 + t136))) else (if (wrap64 (4 * (wrap64 (Int.tdiv (wrap64 ((rd y114 t117) + t139)) (wrap64 (1 + t141)))))) < (rd y114 t117) then (spec_l20Job.j0 k true s0_0 t142 (wrap64 (1 + t108)) (wrap64 (1 + t110)) (wrap64 (1 + t112)) (rd y114 t117) (wrap64 (Int.tdiv (wrap64 ((rd y114 t117) + t139)) (wrap64 (1 + t141)))) (rd y120 t123) (wrap64 (1 + t126)) (t128 == 0) (rd y130 t133) (wrap64 (1 + t136))) else (spec_l20Job.j0 k (decide ((wrap64 (Int.tdiv (wrap64 ((rd y114 t117) + t139)) (wrap64 (1 + t141)))) > (rd y114 t117))) s0_0 t142 (wrap64 (1 + t108)) (wrap64 (1 + t110)) (wrap64 (1 + t112)) (rd y114 t117) (wrap64 (Int.tdiv (wrap64 ((rd y114 t117) + t139)) (wrap64 (1 + t141)))) (rd y120 t123) (wrap64 (1 + t126)) (t128 == 0) (rd y130 t133) (wrap64 (1 + t136)))))) = some (r1, r2, r3, r4, r5, r6, r7, r8, r9, r10, r11) := H
         have A58 := Aside0.mk A580
         clear A580
         by_cases c59 : (wrap64 (1 + t141)) = 0
         ·rw [if_pos c59] at H
          exact absurd H (by simp)
         ·rw [if_neg c59] at H
          have c59b0 : ((wrap64 (1 + t141)) == 0) = false := beq_eq_false_iff_ne.mpr c59
          have c59b1 : ((wrap64 (1 + t141)) != 0) = true := bne_iff_ne.mpr c59
          have HC60 := Aside0.mk H
          clear H
          try go_wp2
          have n0_ := Aside0.mk (Kd.R_drew HO116.out)
          have n1_ := Aside0.mk (Kd.R_drew HO122.out)
          have n2_ := Aside0.mk (Kd.R_drew HO132.out)
          have n3_ := Aside0.mk (blk_drew BK107.out)
          have n4_ := Aside0.mk (blk_drew BK138.out)
          have n5_ := Aside0.mk (IsS115.drew HI0.out)
          have n6_ := Aside0.mk (keep_drew HK.out)
          have n7_ := Aside0.mk (below_drew1 HB.out)
          clear HO116
          clear HO122
          clear HO132
          clear BK107
          clear BK138
          clear HI0
          clear HK
          clear HB
          have HO116 := n0_
          have HO122 := n1_
          have HO132 := n2_
          have BK107 := n3_
          have BK138 := n4_
          have HI0 := n5_
          have HK := n6_
          have HB := n7_
          clear n0_ n1_ n2_ n3_ n4_ n5_ n6_ n7_
          refine start_ (n := 11) (S := fun w' => w'.cell? ⟨gb138, 0, none⟩ = some (.int .i64 (wrap64 (1 + t108))) ∧ w'.cell? ⟨gb138, 1, none⟩ = some (.int .i64 (wrap64 (1 + t110))) ∧ w'.cell? ⟨gb138, 2, none⟩ = some (.int .i64 (wrap64 (1 + t112))) ∧ w'.cell? ⟨gb138, 3, none⟩ = some (.int .i64 (rd y114 t117)) ∧ w'.cell? ⟨gb138, 4, none⟩ = some (.int .i64 0) ∧ w'.cell? ⟨gb138, 5, none⟩ = some (.int .i64 (rd y120 t123)) ∧ w'.cell? ⟨gb138, 6, none⟩ = some (.int .i64 (wrap64 (1 + t126))) ∧ w'.cell? ⟨gb138, 7, none⟩ = some (.bool (t128 == 0)) ∧ w'.cell? ⟨gb138, 8, none⟩ = some (.int .i64 (rd y130 t133)) ∧ w'.cell? ⟨gb138, 9, none⟩ = some (.int .i64 (wrap64 (1 + t136)))) (ds := [10]) #[false, false, false, false, false, false, false, false, false, false, false] (by kernel_rfl) rfl rfl ⟨(blk_cell BK138.out 0).trans rfl, (blk_cell BK138.out 1).trans rfl, (blk_cell BK138.out 2).trans rfl, (blk_cell BK138.out 3).trans rfl, (blk_cell BK138.out 4).trans rfl, (blk_cell BK138.out 5).trans rfl, (blk_cell BK138.out 6).trans rfl, (blk_cell BK138.out 7).trans rfl, (blk_cell BK138.out 8).trans rfl, (blk_cell BK138.out 9).trans rfl⟩ (fun hHeld => ?_); refine with_tabW spec_l20Job.tab3 spec_l20Job.bits3 (fun HT_ HW_ => ?_)
          generalize w49.drew = w61 at HO116 HO122 HO132 BK107 BK138 HI0 HK HB hHeld ⊢
          refine pure_ (i := 0) (N := some 41) (v := ?_) (a' := ?_) #[true, false, false, false, false, false, false, false, false, false, false] rfl rfl (any_of HT_.out (by kernel_rfl)) (fun _ _ _ h => h) (Or.inl ⟨by rfl, ?_⟩) ?_ ?_
          rotate_left
          ·intro w'
           go_simp
           with_reducible rfl
          rotate_left
          ·simp only [Act.put, List.setIfInBounds_toArray, List.set_cons_zero, List.set_cons_succ, i64_w, i32_w]
           rfl
          refine pure_ (i := 2) (N := some 43) (v := ?_) (a' := ?_) #[true, false, true, false, false, false, false, false, false, false, false] rfl rfl (any_of HT_.out (by kernel_rfl)) (fun _ _ _ h => h) (Or.inl ⟨by rfl, ?_⟩) ?_ ?_
          rotate_left
          ·intro w'
           go_simp
           with_reducible rfl
          rotate_left
          ·simp only [Act.put, List.setIfInBounds_toArray, List.set_cons_zero, List.set_cons_succ, i64_w, i32_w]
           rfl
          refine pure_ (i := 5) (N := some 46) (v := ?_) (a' := ?_) #[true, false, true, false, false, true, false, false, false, false, false] rfl rfl (any_of HT_.out (by kernel_rfl)) (fun _ _ _ h => h) (Or.inl ⟨by rfl, ?_⟩) ?_ ?_
          rotate_left
          ·intro w'
           go_simp
           with_reducible rfl
          rotate_left
          ·simp only [Act.put, List.setIfInBounds_toArray, List.set_cons_zero, List.set_cons_succ, i64_w, i32_w]
           rfl
          refine take_ (i := 1) (N := some 42) (v := ?_) (a' := ?_) #[true, true, true, false, false, true, false, false, false, false, false] rfl rfl (take_ofW HT_.out HW_.out (by kernel_rfl)) (fun _ _ _ h => h) (Or.inl ⟨by rfl, ?_⟩) hHeld ?_ ?_
          rotate_left
          ·rintro w' ⟨s0, s1, s2, s3, s4, s5, s6, s7, s8, s9⟩
           go_simp
           with_reducible rfl
          rotate_left
          ·simp only [Act.put, List.setIfInBounds_toArray, List.set_cons_zero, List.set_cons_succ, i64_w, i32_w]
           rfl
          refine one_ (i := 3) (N := some 44) #[true, true, true, true, false, true, false, false, false, false, false] rfl rfl (one_of HT_.out (by kernel_rfl)) (by decide) (fun K hK => ?_)
          refine goes_ Try.func74 (by kernel_rfl) rfl #[.pointer (some ⟨g, 0, none⟩), .int .i64 4] (by rfl) rfl rfl (by (try simp only [List.map_toArray, List.map_cons, List.map_nil]); first | done | rfl | (simp only [List.length_drop, List.length_take]; rfl)) ?_
          with_reducible refine (spec_l20Rd_pick.calls k g s0_0 t137 4 t139 t140 w0 _ ?side1 ?side2 A57.out).mono ?_
          (case side1 => repeat (first | (with_reducible first | exact HI0.out | apply IsS115.alloc | apply IsS115.drewN | apply IsS115.drew | apply IsS115.set_1 | refine IsS115.far ?_ NB0_107.out _ | refine IsS115.far ?_ NB0_138.out _) | exact HI0.out))
          (case side2 => repeat (first | (with_reducible first | exact HB.out | apply below_alloc | apply pw_below_drewN | apply below_drew1 | refine below_set ?_ (IsS115.ge HI0.out) | refine below_set ?_ GE107.out | refine below_set ?_ GE138.out) | exact HB.out))
          rintro e w62 ⟨rfl, hi, hb, hk⟩
          refine ⟨_, rfl, ?_⟩
          have n0_ := Aside0.mk (KeepBut.blk hk (g' := gb107) (o := .cells #[.int .i64 0, .int .i64 0, .int .i64 0, .int .i64 0, .int .i64 0, .int .i64 0, .int .i64 0, .bool false, .int .i64 0, .int .i64 0] 50 (0, 0)) (by (with_reducible repeat (first | refine blk_drewN ?_ _ | refine blk_drew ?_ | refine blk_alloc ?_ _)); exact BK107.out) NB107_0.out (by simp))
          have n1_ := Aside0.mk (Kd.R_mono (Kd.R_keep (IsS115.apart (show IsS115 w0 _ g s0_0 t137 from by repeat (first | (with_reducible first | exact HI0.out | apply IsS115.alloc | apply IsS115.drewN | apply IsS115.drew | apply IsS115.set_1 | refine IsS115.far ?_ NB0_107.out _ | refine IsS115.far ?_ NB0_138.out _) | exact HI0.out)) (by (with_reducible repeat (first | apply Kd.R_alloc | apply Kd.R_drewN | apply Kd.R_drew)); exact HO116.out) (by decide)) hk (fun _ h => h.2)) (fun _ h => h.1))
          have n2_ := Aside0.mk (Kd.R_mono (Kd.R_keep (IsS115.apart (show IsS115 w0 _ g s0_0 t137 from by repeat (first | (with_reducible first | exact HI0.out | apply IsS115.alloc | apply IsS115.drewN | apply IsS115.drew | apply IsS115.set_1 | refine IsS115.far ?_ NB0_107.out _ | refine IsS115.far ?_ NB0_138.out _) | exact HI0.out)) (by (with_reducible repeat (first | apply Kd.R_alloc | apply Kd.R_drewN | apply Kd.R_drew)); exact HO122.out) (by decide)) hk (fun _ h => h.2)) (fun _ h => h.1))
          have n3_ := Aside0.mk (Kd.R_mono (Kd.R_keep (IsS115.apart (show IsS115 w0 _ g s0_0 t137 from by repeat (first | (with_reducible first | exact HI0.out | apply IsS115.alloc | apply IsS115.drewN | apply IsS115.drew | apply IsS115.set_1 | refine IsS115.far ?_ NB0_107.out _ | refine IsS115.far ?_ NB0_138.out _) | exact HI0.out)) (by (with_reducible repeat (first | apply Kd.R_alloc | apply Kd.R_drewN | apply Kd.R_drew)); exact HO132.out) (by decide)) hk (fun _ h => h.2)) (fun _ h => h.1))
          have n4_ := Aside0.mk (KeepBut.blk hk (g' := gb138) (o := .cells #[.int .i64 (wrap64 (1 + t108)), .int .i64 (wrap64 (1 + t110)), .int .i64 (wrap64 (1 + t112)), .int .i64 (rd y114 t117), .int .i64 0, .int .i64 (rd y120 t123), .int .i64 (wrap64 (1 + t126)), .bool (t128 == 0), .int .i64 (rd y130 t133), .int .i64 (wrap64 (1 + t136))] 50 (0, 0)) (by (with_reducible repeat (first | refine blk_drewN ?_ _ | refine blk_drew ?_ | refine blk_alloc ?_ _)); exact BK138.out) NB138_0.out (by simp))
          have n5_ := Aside0.mk (KeepBut.trans (by repeat (first | (with_reducible first | exact HK.out | apply KeepBut.set_ | apply keep_drewN | apply keep_drew | apply keep_alloc | refine keep_far ?_ GW107.out _ | refine keep_far ?_ GW138.out _) | exact HK.out)) hk (.inl rfl))
          have n6_ := Aside0.mk (hb)
          have n7_ := Aside0.mk (hi)
          clear BK107
          clear HO116
          clear HO122
          clear HO132
          clear BK138
          clear HK
          clear HB
          clear HI0
          have BK107 := n0_
          have HO116 := n1_
          have HO122 := n2_
          have HO132 := n3_
          have BK138 := n4_
          have HK := n5_
          have HB := n6_
          have HI0 := n7_
          clear n0_ n1_ n2_ n3_ n4_ n5_ n6_ n7_
          (try clear hb)
          (try clear hb2)
          (try clear hk)
          (try clear hi)
          refine hK.out _ _ ⟨(blk_cell BK138.out 0).trans rfl, (blk_cell BK138.out 1).trans rfl, (blk_cell BK138.out 2).trans rfl, (blk_cell BK138.out 3).trans rfl, (blk_cell BK138.out 4).trans rfl, (blk_cell BK138.out 5).trans rfl, (blk_cell BK138.out 6).trans rfl, (blk_cell BK138.out 7).trans rfl, (blk_cell BK138.out 8).trans rfl, (blk_cell BK138.out 9).trans rfl⟩ (fun hHeld => ?_)
          clear hK K
          refine norm_ (a' := ?_) ?_ ?_
          rotate_left
          ·show Act.put _ (some 44) _ = _
           simp only [Act.put, List.setIfInBounds_toArray, List.set_cons_zero, List.set_cons_succ, i64_w, i32_w]
           rfl
          refine pure_ (i := 4) (N := some 45) (v := ?_) (a' := ?_) #[true, true, true, true, true, true, false, false, false, false, false] rfl rfl (any_of HT_.out (by kernel_rfl)) (fun _ _ _ h => h) (Or.inl ⟨by rfl, ?_⟩) ?_ ?_
          rotate_left
          ·intro w'
           go_simp
           with_reducible rfl
          rotate_left
          ·simp only [Act.put, List.setIfInBounds_toArray, List.set_cons_zero, List.set_cons_succ, i64_w, i32_w]
           rfl
          refine one_ (i := 6) (N := some 47) #[true, true, true, true, true, true, true, false, false, false, false] rfl rfl (one_of HT_.out (by kernel_rfl)) (by decide) (fun K hK => ?_)
          refine goes_ Try.func74 (by kernel_rfl) rfl #[.pointer (some ⟨g, 0, none⟩), .int .i64 4] (by rfl) rfl rfl (by (try simp only [List.map_toArray, List.map_cons, List.map_nil]); first | done | rfl | (simp only [List.length_drop, List.length_take]; rfl)) ?_
          with_reducible refine (spec_l20Rd_pick.calls k g s0_0 t140 4 t141 t142 w0 _ ?side1 ?side2 A58.out).mono ?_
          (case side1 => repeat (first | (with_reducible first | exact HI0.out | apply IsS115.alloc | apply IsS115.drewN | apply IsS115.drew | apply IsS115.set_1 | refine IsS115.far ?_ NB0_107.out _ | refine IsS115.far ?_ NB0_138.out _) | exact HI0.out))
          (case side2 => repeat (first | (with_reducible first | exact HB.out | apply below_alloc | apply pw_below_drewN | apply below_drew1 | refine below_set ?_ (IsS115.ge HI0.out) | refine below_set ?_ GE107.out | refine below_set ?_ GE138.out) | exact HB.out))
          rintro e w63 ⟨rfl, hi, hb, hk⟩
          refine ⟨_, rfl, ?_⟩
          have n0_ := Aside0.mk (KeepBut.blk hk (g' := gb107) (o := .cells #[.int .i64 0, .int .i64 0, .int .i64 0, .int .i64 0, .int .i64 0, .int .i64 0, .int .i64 0, .bool false, .int .i64 0, .int .i64 0] 50 (0, 0)) (by (with_reducible repeat (first | refine blk_drewN ?_ _ | refine blk_drew ?_ | refine blk_alloc ?_ _)); exact BK107.out) NB107_0.out (by simp))
          have n1_ := Aside0.mk (Kd.R_mono (Kd.R_keep (IsS115.apart (show IsS115 w0 _ g s0_0 t140 from by repeat (first | (with_reducible first | exact HI0.out | apply IsS115.alloc | apply IsS115.drewN | apply IsS115.drew | apply IsS115.set_1 | refine IsS115.far ?_ NB0_107.out _ | refine IsS115.far ?_ NB0_138.out _) | exact HI0.out)) (by (with_reducible repeat (first | apply Kd.R_alloc | apply Kd.R_drewN | apply Kd.R_drew)); exact HO116.out) (by decide)) hk (fun _ h => h.2)) (fun _ h => h.1))
          have n2_ := Aside0.mk (Kd.R_mono (Kd.R_keep (IsS115.apart (show IsS115 w0 _ g s0_0 t140 from by repeat (first | (with_reducible first | exact HI0.out | apply IsS115.alloc | apply IsS115.drewN | apply IsS115.drew | apply IsS115.set_1 | refine IsS115.far ?_ NB0_107.out _ | refine IsS115.far ?_ NB0_138.out _) | exact HI0.out)) (by (with_reducible repeat (first | apply Kd.R_alloc | apply Kd.R_drewN | apply Kd.R_drew)); exact HO122.out) (by decide)) hk (fun _ h => h.2)) (fun _ h => h.1))
          have n3_ := Aside0.mk (Kd.R_mono (Kd.R_keep (IsS115.apart (show IsS115 w0 _ g s0_0 t140 from by repeat (first | (with_reducible first | exact HI0.out | apply IsS115.alloc | apply IsS115.drewN | apply IsS115.drew | apply IsS115.set_1 | refine IsS115.far ?_ NB0_107.out _ | refine IsS115.far ?_ NB0_138.out _) | exact HI0.out)) (by (with_reducible repeat (first | apply Kd.R_alloc | apply Kd.R_drewN | apply Kd.R_drew)); exact HO132.out) (by decide)) hk (fun _ h => h.2)) (fun _ h => h.1))
          have n4_ := Aside0.mk (KeepBut.blk hk (g' := gb138) (o := .cells #[.int .i64 (wrap64 (1 + t108)), .int .i64 (wrap64 (1 + t110)), .int .i64 (wrap64 (1 + t112)), .int .i64 (rd y114 t117), .int .i64 0, .int .i64 (rd y120 t123), .int .i64 (wrap64 (1 + t126)), .bool (t128 == 0), .int .i64 (rd y130 t133), .int .i64 (wrap64 (1 + t136))] 50 (0, 0)) (by (with_reducible repeat (first | refine blk_drewN ?_ _ | refine blk_drew ?_ | refine blk_alloc ?_ _)); exact BK138.out) NB138_0.out (by simp))
          have n5_ := Aside0.mk (KeepBut.trans (by repeat (first | (with_reducible first | exact HK.out | apply KeepBut.set_ | apply keep_drewN | apply keep_drew | apply keep_alloc | refine keep_far ?_ GW107.out _ | refine keep_far ?_ GW138.out _) | exact HK.out)) hk (.inl rfl))
          have n6_ := Aside0.mk (hb)
          have n7_ := Aside0.mk (hi)
          clear BK107
          clear HO116
          clear HO122
          clear HO132
          clear BK138
          clear HK
          clear HB
          clear HI0
          have BK107 := n0_
          have HO116 := n1_
          have HO122 := n2_
          have HO132 := n3_
          have BK138 := n4_
          have HK := n5_
          have HB := n6_
          have HI0 := n7_
          clear n0_ n1_ n2_ n3_ n4_ n5_ n6_ n7_
          (try clear hb)
          (try clear hb2)
          (try clear hk)
          (try clear hi)
          refine hK.out _ _ ⟨(blk_cell BK138.out 0).trans rfl, (blk_cell BK138.out 1).trans rfl, (blk_cell BK138.out 2).trans rfl, (blk_cell BK138.out 3).trans rfl, (blk_cell BK138.out 4).trans rfl, (blk_cell BK138.out 5).trans rfl, (blk_cell BK138.out 6).trans rfl, (blk_cell BK138.out 7).trans rfl, (blk_cell BK138.out 8).trans rfl, (blk_cell BK138.out 9).trans rfl⟩ (fun hHeld => ?_)
          clear hK K
          refine norm_ (a' := ?_) ?_ ?_
          rotate_left
          ·show Act.put _ (some 47) _ = _
           simp only [Act.put, List.setIfInBounds_toArray, List.set_cons_zero, List.set_cons_succ, i64_w, i32_w]
           rfl
          refine pure_ (i := 7) (N := some 48) (v := ?_) (a' := ?_) #[true, true, true, true, true, true, true, true, false, false, false] rfl rfl (any_of HT_.out (by kernel_rfl)) (fun _ _ _ h => h) (Or.inl ⟨by rfl, ?_⟩) ?_ ?_
          rotate_left
          ·intro w'
           go_simp
           with_reducible rfl
          rotate_left
          ·simp only [Act.put, List.setIfInBounds_toArray, List.set_cons_zero, List.set_cons_succ, i64_w, i32_w]
           rfl
          refine pure_ (i := 8) (N := some 49) (v := ?_) (a' := ?_) #[true, true, true, true, true, true, true, true, true, false, false] rfl rfl (any_of HT_.out (by kernel_rfl)) (fun _ _ _ h => h) (Or.inl ⟨by rfl, ?_⟩) ?_ ?_
          rotate_left
          ·intro w'
           go_simp
           with_reducible rfl
          rotate_left
          ·simp only [Act.put, List.setIfInBounds_toArray, List.set_cons_zero, List.set_cons_succ, i64_w, i32_w]
           rfl
          refine pure_ (i := 9) (N := some 50) (v := ?_) (a' := ?_) #[true, true, true, true, true, true, true, true, true, true, false] rfl rfl (any_of HT_.out (by kernel_rfl)) (fun _ _ _ h => h) (Or.inl ⟨by rfl, ?_⟩) ?_ ?_
          rotate_left
          ·intro w'
           go_simp
           with_reducible rfl
          rotate_left
          ·simp only [Act.put, List.setIfInBounds_toArray, List.set_cons_zero, List.set_cons_succ, i64_w, i32_w]
           rfl
          refine last_ (i := 10) (N := none) #[true, true, true, true, true, true, true, true, true, true, true] rfl rfl (one_of HT_.out (by kernel_rfl)) (by decide) (fun K hK => ?_)
          have hs64 : w63.cell? ⟨gb138, 4, none⟩ = some (.int .i64 0) := (blk_cell BK138.out 4).trans rfl
          have hfs64 := blk_frozen BK138.out 4
          have hns64_0 := NB107_138.out
          have hms64_0 := NB138_107.out
          refine skip_ (w1 := ?_) (by rfl) rfl ?_ ?_
          rotate_left
          ·go_simp
           rfl
          refine hK.out _ _ ?_
          clear hK K
          refine done_ (done_of HT_.out (by kernel_rfl)) ?_
          go_upto_region 4 with (fail)
          go_cut [68] (fun v68 wc => ∃ (kq : Nat) (x68_59 : Bool), v68 = .bool x68_59 ∧ Aside0 (spec_l20Job.j0 kq x68_59 s0_0 t142 (wrap64 (1 + t108)) (wrap64 (1 + t110)) (wrap64 (1 + t112)) (rd y114 t117) (wrap64 (Int.tdiv (wrap64 ((rd y114 t117) + t139)) (wrap64 (1 + t141)))) (rd y120 t123) (wrap64 (1 + t126)) (t128 == 0) (rd y130 t133) (wrap64 (1 + t136)) = some (r1, r2, r3, r4, r5, r6, r7, r8, r9, r10, r11)) ∧ Aside0 (kq ≤ k) ∧ Aside0 (wc.heap[gb107]? = some (.cells #[.int .i64 0, .int .i64 0, .int .i64 0, .int .i64 0, .int .i64 0, .int .i64 0, .int .i64 0, .bool false, .int .i64 0, .int .i64 0] 50 (0, 0))) ∧ Aside0 (wc.heap[gb138]? = some (.cells #[.int .i64 (wrap64 (1 + t108)), .int .i64 (wrap64 (1 + t110)), .int .i64 (wrap64 (1 + t112)), .int .i64 (rd y114 t117), .int .i64 (wrap64 (Int.tdiv (wrap64 ((rd y114 t117) + t139)) (wrap64 (1 + t141)))), .int .i64 (rd y120 t123), .int .i64 (wrap64 (1 + t126)), .bool (t128 == 0), .int .i64 (rd y130 t133), .int .i64 (wrap64 (1 + t136))] 50 (0, 0))) ∧ Aside0 (IsS115 w0 wc g s0_0 t142) ∧ Aside0 (KeepBut w wc g none) ∧ Aside0 (Below w0.heap.size w0 wc))
          case first =>
           have H := HC60.out
           clear HC60
           by_cases c65 : (wrap64 (Int.tdiv (wrap64 ((rd y114 t117) + t139)) (wrap64 (1 + t141)))) < 1
           ·rw [if_pos c65] at H
            have c65b0 : decide ((wrap64 (Int.tdiv (wrap64 ((rd y114 t117) + t139)) (wrap64 (1 + t141)))) < 1) = true := decide_eq_true c65
            clear c65
            (first | rw [c65b0] | (simp only [i64_w, i32_w]; rw [c65b0]) | skip)
            have H' := Aside0.mk H
            clear H
            have hnb66 := NB138_107.out
            have hnc66 := NB107_138.out
            have hnb67 := NB138_0.out
            have hnc67 := NB0_138.out
            have hcz68_0 : w63.cell? ⟨gb138, 0, none⟩ = some (.int .i64 (wrap64 (1 + t108))) := (blk_cell BK138.out 0).trans rfl
            have hcz68_1 : w63.cell? ⟨gb138, 1, none⟩ = some (.int .i64 (wrap64 (1 + t110))) := (blk_cell BK138.out 1).trans rfl
            have hcz68_2 : w63.cell? ⟨gb138, 2, none⟩ = some (.int .i64 (wrap64 (1 + t112))) := (blk_cell BK138.out 2).trans rfl
            have hcz68_3 : w63.cell? ⟨gb138, 3, none⟩ = some (.int .i64 (rd y114 t117)) := (blk_cell BK138.out 3).trans rfl
            have hcz68_4 : w63.cell? ⟨gb138, 4, none⟩ = some (.int .i64 0) := (blk_cell BK138.out 4).trans rfl
            have hcz68_5 : w63.cell? ⟨gb138, 5, none⟩ = some (.int .i64 (rd y120 t123)) := (blk_cell BK138.out 5).trans rfl
            have hcz68_6 : w63.cell? ⟨gb138, 6, none⟩ = some (.int .i64 (wrap64 (1 + t126))) := (blk_cell BK138.out 6).trans rfl
            have hcz68_7 : w63.cell? ⟨gb138, 7, none⟩ = some (.bool (t128 == 0)) := (blk_cell BK138.out 7).trans rfl
            have hcz68_8 : w63.cell? ⟨gb138, 8, none⟩ = some (.int .i64 (rd y130 t133)) := (blk_cell BK138.out 8).trans rfl
            have hcz68_9 : w63.cell? ⟨gb138, 9, none⟩ = some (.int .i64 (wrap64 (1 + t136))) := (blk_cell BK138.out 9).trans rfl
            have hfz68_0 := blk_frozen BK138.out 0
            have hfz68_1 := blk_frozen BK138.out 1
            have hfz68_2 := blk_frozen BK138.out 2
            have hfz68_3 := blk_frozen BK138.out 3
            have hfz68_4 := blk_frozen BK138.out 4
            have hfz68_5 := blk_frozen BK138.out 5
            have hfz68_6 := blk_frozen BK138.out 6
            have hfz68_7 := blk_frozen BK138.out 7
            have hfz68_8 := blk_frozen BK138.out 8
            have hfz68_9 := blk_frozen BK138.out 9
            go_wp2
            go_meet
            case rel => exact ⟨_, (true), (by first | rfl | (simp; done) | (simp [*]; done)), H', ⟨by first | omega | exact Nat.le_refl _⟩, ⟨by (with_reducible repeat (first | refine blk_drewN ?_ _ | refine blk_drew ?_ | refine blk_alloc ?_ _)); refine blk_far ?_ NB107_138.out _; (with_reducible repeat (first | refine blk_drewN ?_ _ | refine blk_drew ?_ | refine blk_alloc ?_ _)); exact BK107.out⟩, ⟨by (with_reducible repeat (first | refine blk_drewN ?_ _ | refine blk_drew ?_ | refine blk_alloc ?_ _)); refine blk_put (cs := #[.int .i64 (wrap64 (1 + t108)), .int .i64 (wrap64 (1 + t110)), .int .i64 (wrap64 (1 + t112)), .int .i64 (rd y114 t117), .int .i64 0, .int .i64 (rd y120 t123), .int .i64 (wrap64 (1 + t126)), .bool (t128 == 0), .int .i64 (rd y130 t133), .int .i64 (wrap64 (1 + t136))]) ?_ 4 _ rfl; (with_reducible repeat (first | refine blk_drewN ?_ _ | refine blk_drew ?_ | refine blk_alloc ?_ _)); exact BK138.out⟩, ⟨by repeat (first | (with_reducible first | exact HI0.out | apply IsS115.alloc | apply IsS115.drewN | apply IsS115.drew | apply IsS115.set_1 | refine IsS115.far ?_ NB0_107.out _ | refine IsS115.far ?_ NB0_138.out _) | exact HI0.out)⟩, ⟨by repeat (first | (with_reducible first | exact HK.out | apply KeepBut.set_ | apply keep_drewN | apply keep_drew | apply keep_alloc | refine keep_far ?_ GW107.out _ | refine keep_far ?_ GW138.out _) | exact HK.out)⟩, ⟨by repeat (first | (with_reducible first | exact HB.out | apply below_alloc | apply pw_below_drewN | apply below_drew1 | refine below_set ?_ (IsS115.ge HI0.out) | refine below_set ?_ GE107.out | refine below_set ?_ GE138.out) | exact HB.out)⟩⟩
           ·rw [if_neg c65] at H
            have c65b0 : decide ((wrap64 (Int.tdiv (wrap64 ((rd y114 t117) + t139)) (wrap64 (1 + t141)))) < 1) = false := decide_eq_false c65
            clear c65
            (first | rw [c65b0] | (simp only [i64_w, i32_w]; rw [c65b0]) | skip)
            by_cases c69 : (wrap64 (4 * (wrap64 (Int.tdiv (wrap64 ((rd y114 t117) + t139)) (wrap64 (1 + t141)))))) < (rd y114 t117)
            ·rw [if_pos c69] at H
             have c69b0 : decide ((wrap64 (4 * (wrap64 (Int.tdiv (wrap64 ((rd y114 t117) + t139)) (wrap64 (1 + t141)))))) < (rd y114 t117)) = true := decide_eq_true c69
             clear c69
             have H' := Aside0.mk H
             clear H
             have hnb70 := NB138_107.out
             have hnc70 := NB107_138.out
             have hnb71 := NB138_0.out
             have hnc71 := NB0_138.out
             have hcz72_0 : w63.cell? ⟨gb138, 0, none⟩ = some (.int .i64 (wrap64 (1 + t108))) := (blk_cell BK138.out 0).trans rfl
             have hcz72_1 : w63.cell? ⟨gb138, 1, none⟩ = some (.int .i64 (wrap64 (1 + t110))) := (blk_cell BK138.out 1).trans rfl
             have hcz72_2 : w63.cell? ⟨gb138, 2, none⟩ = some (.int .i64 (wrap64 (1 + t112))) := (blk_cell BK138.out 2).trans rfl
             have hcz72_3 : w63.cell? ⟨gb138, 3, none⟩ = some (.int .i64 (rd y114 t117)) := (blk_cell BK138.out 3).trans rfl
             have hcz72_4 : w63.cell? ⟨gb138, 4, none⟩ = some (.int .i64 0) := (blk_cell BK138.out 4).trans rfl
             have hcz72_5 : w63.cell? ⟨gb138, 5, none⟩ = some (.int .i64 (rd y120 t123)) := (blk_cell BK138.out 5).trans rfl
             have hcz72_6 : w63.cell? ⟨gb138, 6, none⟩ = some (.int .i64 (wrap64 (1 + t126))) := (blk_cell BK138.out 6).trans rfl
             have hcz72_7 : w63.cell? ⟨gb138, 7, none⟩ = some (.bool (t128 == 0)) := (blk_cell BK138.out 7).trans rfl
             have hcz72_8 : w63.cell? ⟨gb138, 8, none⟩ = some (.int .i64 (rd y130 t133)) := (blk_cell BK138.out 8).trans rfl
             have hcz72_9 : w63.cell? ⟨gb138, 9, none⟩ = some (.int .i64 (wrap64 (1 + t136))) := (blk_cell BK138.out 9).trans rfl
             have hfz72_0 := blk_frozen BK138.out 0
             have hfz72_1 := blk_frozen BK138.out 1
             have hfz72_2 := blk_frozen BK138.out 2
             have hfz72_3 := blk_frozen BK138.out 3
             have hfz72_4 := blk_frozen BK138.out 4
             have hfz72_5 := blk_frozen BK138.out 5
             have hfz72_6 := blk_frozen BK138.out 6
             have hfz72_7 := blk_frozen BK138.out 7
             have hfz72_8 := blk_frozen BK138.out 8
             have hfz72_9 := blk_frozen BK138.out 9
             go_wp2
             go_meet
             case rel => exact ⟨_, (true), (by first | rfl | (simp; done) | (simp [*]; done)), H', ⟨by first | omega | exact Nat.le_refl _⟩, ⟨by (with_reducible repeat (first | refine blk_drewN ?_ _ | refine blk_drew ?_ | refine blk_alloc ?_ _)); refine blk_far ?_ NB107_138.out _; (with_reducible repeat (first | refine blk_drewN ?_ _ | refine blk_drew ?_ | refine blk_alloc ?_ _)); exact BK107.out⟩, ⟨by (with_reducible repeat (first | refine blk_drewN ?_ _ | refine blk_drew ?_ | refine blk_alloc ?_ _)); refine blk_put (cs := #[.int .i64 (wrap64 (1 + t108)), .int .i64 (wrap64 (1 + t110)), .int .i64 (wrap64 (1 + t112)), .int .i64 (rd y114 t117), .int .i64 0, .int .i64 (rd y120 t123), .int .i64 (wrap64 (1 + t126)), .bool (t128 == 0), .int .i64 (rd y130 t133), .int .i64 (wrap64 (1 + t136))]) ?_ 4 _ rfl; (with_reducible repeat (first | refine blk_drewN ?_ _ | refine blk_drew ?_ | refine blk_alloc ?_ _)); exact BK138.out⟩, ⟨by repeat (first | (with_reducible first | exact HI0.out | apply IsS115.alloc | apply IsS115.drewN | apply IsS115.drew | apply IsS115.set_1 | refine IsS115.far ?_ NB0_107.out _ | refine IsS115.far ?_ NB0_138.out _) | exact HI0.out)⟩, ⟨by repeat (first | (with_reducible first | exact HK.out | apply KeepBut.set_ | apply keep_drewN | apply keep_drew | apply keep_alloc | refine keep_far ?_ GW107.out _ | refine keep_far ?_ GW138.out _) | exact HK.out)⟩, ⟨by repeat (first | (with_reducible first | exact HB.out | apply below_alloc | apply pw_below_drewN | apply below_drew1 | refine below_set ?_ (IsS115.ge HI0.out) | refine below_set ?_ GE107.out | refine below_set ?_ GE138.out) | exact HB.out)⟩⟩
            ·rw [if_neg c69] at H
             have c69b0 : decide ((wrap64 (4 * (wrap64 (Int.tdiv (wrap64 ((rd y114 t117) + t139)) (wrap64 (1 + t141)))))) < (rd y114 t117)) = false := decide_eq_false c69
             clear c69
             have H' := Aside0.mk H
             clear H
             have hnb73 := NB138_107.out
             have hnc73 := NB107_138.out
             have hnb74 := NB138_0.out
             have hnc74 := NB0_138.out
             have hcz75_0 : w63.cell? ⟨gb138, 0, none⟩ = some (.int .i64 (wrap64 (1 + t108))) := (blk_cell BK138.out 0).trans rfl
             have hcz75_1 : w63.cell? ⟨gb138, 1, none⟩ = some (.int .i64 (wrap64 (1 + t110))) := (blk_cell BK138.out 1).trans rfl
             have hcz75_2 : w63.cell? ⟨gb138, 2, none⟩ = some (.int .i64 (wrap64 (1 + t112))) := (blk_cell BK138.out 2).trans rfl
             have hcz75_3 : w63.cell? ⟨gb138, 3, none⟩ = some (.int .i64 (rd y114 t117)) := (blk_cell BK138.out 3).trans rfl
             have hcz75_4 : w63.cell? ⟨gb138, 4, none⟩ = some (.int .i64 0) := (blk_cell BK138.out 4).trans rfl
             have hcz75_5 : w63.cell? ⟨gb138, 5, none⟩ = some (.int .i64 (rd y120 t123)) := (blk_cell BK138.out 5).trans rfl
             have hcz75_6 : w63.cell? ⟨gb138, 6, none⟩ = some (.int .i64 (wrap64 (1 + t126))) := (blk_cell BK138.out 6).trans rfl
             have hcz75_7 : w63.cell? ⟨gb138, 7, none⟩ = some (.bool (t128 == 0)) := (blk_cell BK138.out 7).trans rfl
             have hcz75_8 : w63.cell? ⟨gb138, 8, none⟩ = some (.int .i64 (rd y130 t133)) := (blk_cell BK138.out 8).trans rfl
             have hcz75_9 : w63.cell? ⟨gb138, 9, none⟩ = some (.int .i64 (wrap64 (1 + t136))) := (blk_cell BK138.out 9).trans rfl
             have hfz75_0 := blk_frozen BK138.out 0
             have hfz75_1 := blk_frozen BK138.out 1
             have hfz75_2 := blk_frozen BK138.out 2
             have hfz75_3 := blk_frozen BK138.out 3
             have hfz75_4 := blk_frozen BK138.out 4
             have hfz75_5 := blk_frozen BK138.out 5
             have hfz75_6 := blk_frozen BK138.out 6
             have hfz75_7 := blk_frozen BK138.out 7
             have hfz75_8 := blk_frozen BK138.out 8
             have hfz75_9 := blk_frozen BK138.out 9
             go_wp2
             go_meet
             case rel => exact ⟨_, (decide ((wrap64 (Int.tdiv (wrap64 ((rd y114 t117) + t139)) (wrap64 (1 + t141)))) > (rd y114 t117))), (by first | rfl | (simp; done) | (simp [*]; done)), H', ⟨by first | omega | exact Nat.le_refl _⟩, ⟨by (with_reducible repeat (first | refine blk_drewN ?_ _ | refine blk_drew ?_ | refine blk_alloc ?_ _)); refine blk_far ?_ NB107_138.out _; (with_reducible repeat (first | refine blk_drewN ?_ _ | refine blk_drew ?_ | refine blk_alloc ?_ _)); exact BK107.out⟩, ⟨by (with_reducible repeat (first | refine blk_drewN ?_ _ | refine blk_drew ?_ | refine blk_alloc ?_ _)); refine blk_put (cs := #[.int .i64 (wrap64 (1 + t108)), .int .i64 (wrap64 (1 + t110)), .int .i64 (wrap64 (1 + t112)), .int .i64 (rd y114 t117), .int .i64 0, .int .i64 (rd y120 t123), .int .i64 (wrap64 (1 + t126)), .bool (t128 == 0), .int .i64 (rd y130 t133), .int .i64 (wrap64 (1 + t136))]) ?_ 4 _ rfl; (with_reducible repeat (first | refine blk_drewN ?_ _ | refine blk_drew ?_ | refine blk_alloc ?_ _)); exact BK138.out⟩, ⟨by repeat (first | (with_reducible first | exact HI0.out | apply IsS115.alloc | apply IsS115.drewN | apply IsS115.drew | apply IsS115.set_1 | refine IsS115.far ?_ NB0_107.out _ | refine IsS115.far ?_ NB0_138.out _) | exact HI0.out)⟩, ⟨by repeat (first | (with_reducible first | exact HK.out | apply KeepBut.set_ | apply keep_drewN | apply keep_drew | apply keep_alloc | refine keep_far ?_ GW107.out _ | refine keep_far ?_ GW138.out _) | exact HK.out)⟩, ⟨by repeat (first | (with_reducible first | exact HB.out | apply below_alloc | apply pw_below_drewN | apply below_drew1 | refine below_set ?_ (IsS115.ge HI0.out) | refine below_set ?_ GE107.out | refine below_set ?_ GE138.out) | exact HB.out)⟩⟩
          case rest =>
           clear HC60
           try clear p2
           try clear c5
           try clear c6
           try clear p6
           try clear c7
           try clear c53
           try clear c54
           try clear c56
           try clear c56b0
           try clear c56b1
           try clear c59
           try clear c59b0
           try clear c59b1
           try clear p64
           try clear c65
           try clear c65b0
           try clear c66
           try clear c67
           try clear c69
           try clear c69b0
           try clear c70
           try clear c71
           try clear c73
           try clear c74
           try clear hcz55_0
           try clear hcz55_1
           try clear hcz55_2
           try clear hcz55_3
           try clear hcz55_4
           try clear hcz55_5
           try clear hcz55_6
           try clear hcz55_7
           try clear hcz55_8
           try clear hcz55_9
           try clear hcz68_0
           try clear hcz68_1
           try clear hcz68_2
           try clear hcz68_3
           try clear hcz68_4
           try clear hcz68_5
           try clear hcz68_6
           try clear hcz68_7
           try clear hcz68_8
           try clear hcz68_9
           try clear hcz72_0
           try clear hcz72_1
           try clear hcz72_2
           try clear hcz72_3
           try clear hcz72_4
           try clear hcz72_5
           try clear hcz72_6
           try clear hcz72_7
           try clear hcz72_8
           try clear hcz72_9
           try clear hcz75_0
           try clear hcz75_1
           try clear hcz75_2
           try clear hcz75_3
           try clear hcz75_4
           try clear hcz75_5
           try clear hcz75_6
           try clear hcz75_7
           try clear hcz75_8
           try clear hcz75_9
           try clear hfz55_0
           try clear hfz55_1
           try clear hfz55_2
           try clear hfz55_3
           try clear hfz55_4
           try clear hfz55_5
           try clear hfz55_6
           try clear hfz55_7
           try clear hfz55_8
           try clear hfz55_9
           try clear hfz68_0
           try clear hfz68_1
           try clear hfz68_2
           try clear hfz68_3
           try clear hfz68_4
           try clear hfz68_5
           try clear hfz68_6
           try clear hfz68_7
           try clear hfz68_8
           try clear hfz68_9
           try clear hfz72_0
           try clear hfz72_1
           try clear hfz72_2
           try clear hfz72_3
           try clear hfz72_4
           try clear hfz72_5
           try clear hfz72_6
           try clear hfz72_7
           try clear hfz72_8
           try clear hfz72_9
           try clear hfz75_0
           try clear hfz75_1
           try clear hfz75_2
           try clear hfz75_3
           try clear hfz75_4
           try clear hfz75_5
           try clear hfz75_6
           try clear hfz75_7
           try clear hfz75_8
           try clear hfz75_9
           obtain ⟨kq, x68_59, rfl, HA, HJ59, BK107, BK138, HI0, HK, HB⟩ := hcut
           cases kq with
           | zero => exact absurd HA.out (by simp [spec_l20Job.j0])
           | succ kj59 =>
            have H := HA.out
            clear HA
            simp only [spec_l20Job.j0] at H
            have HC76 := Aside0.mk H
            clear H
            go_upto_if 68 with (fail)
            go_cut [] (fun wc => ∃ (kq : Nat) (x139004_75 : Int), Aside0 (spec_l20Job.j1 kq s0_0 t142 (wrap64 (1 + t108)) (wrap64 (1 + t110)) (wrap64 (1 + t112)) (rd y114 t117) x139004_75 (rd y120 t123) (wrap64 (1 + t126)) (t128 == 0) (rd y130 t133) (wrap64 (1 + t136)) = some (r1, r2, r3, r4, r5, r6, r7, r8, r9, r10, r11)) ∧ Aside0 (kq ≤ kj59) ∧ Aside0 (wc.heap[gb107]? = some (.cells #[.int .i64 0, .int .i64 0, .int .i64 0, .int .i64 0, .int .i64 0, .int .i64 0, .int .i64 0, .bool false, .int .i64 0, .int .i64 0] 50 (0, 0))) ∧ Aside0 (wc.heap[gb138]? = some (.cells #[.int .i64 (wrap64 (1 + t108)), .int .i64 (wrap64 (1 + t110)), .int .i64 (wrap64 (1 + t112)), .int .i64 (rd y114 t117), .int .i64 x139004_75, .int .i64 (rd y120 t123), .int .i64 (wrap64 (1 + t126)), .bool (t128 == 0), .int .i64 (rd y130 t133), .int .i64 (wrap64 (1 + t136))] 50 (0, 0))) ∧ Aside0 (IsS115 w0 wc g s0_0 t142) ∧ Aside0 (KeepBut w wc g none) ∧ Aside0 (Below w0.heap.size w0 wc))
            case first =>
             have H := HC76.out
             clear HC76
             by_cases c77 : x68_59 = true
             ·subst c77
              have H1 : (spec_l20Job.j1 kj59 s0_0 t142 (wrap64 (1 + t108)) (wrap64 (1 + t110)) (wrap64 (1 + t112)) (rd y114 t117) (wrap64 (Int.tdiv (wrap64 ((rd y114 t117) + 1)) 2)) (rd y120 t123) (wrap64 (1 + t126)) (t128 == 0) (rd y130 t133) (wrap64 (1 + t136))) = some (r1, r2, r3, r4, r5, r6, r7, r8, r9, r10, r11) := by rw [if_pos rfl] at H; exact H
              clear H
              have H := H1
              clear H1
              have H' := Aside0.mk H
              clear H
              have hnb78 := NB138_107.out
              have hnc78 := NB107_138.out
              have hnb79 := NB138_0.out
              have hnc79 := NB0_138.out
              have hcz80_0 : wc.cell? ⟨gb138, 0, none⟩ = some (.int .i64 (wrap64 (1 + t108))) := (blk_cell BK138.out 0).trans rfl
              have hcz80_1 : wc.cell? ⟨gb138, 1, none⟩ = some (.int .i64 (wrap64 (1 + t110))) := (blk_cell BK138.out 1).trans rfl
              have hcz80_2 : wc.cell? ⟨gb138, 2, none⟩ = some (.int .i64 (wrap64 (1 + t112))) := (blk_cell BK138.out 2).trans rfl
              have hcz80_3 : wc.cell? ⟨gb138, 3, none⟩ = some (.int .i64 (rd y114 t117)) := (blk_cell BK138.out 3).trans rfl
              have hcz80_4 : wc.cell? ⟨gb138, 4, none⟩ = some (.int .i64 (wrap64 (Int.tdiv (wrap64 ((rd y114 t117) + t139)) (wrap64 (1 + t141))))) := (blk_cell BK138.out 4).trans rfl
              have hcz80_5 : wc.cell? ⟨gb138, 5, none⟩ = some (.int .i64 (rd y120 t123)) := (blk_cell BK138.out 5).trans rfl
              have hcz80_6 : wc.cell? ⟨gb138, 6, none⟩ = some (.int .i64 (wrap64 (1 + t126))) := (blk_cell BK138.out 6).trans rfl
              have hcz80_7 : wc.cell? ⟨gb138, 7, none⟩ = some (.bool (t128 == 0)) := (blk_cell BK138.out 7).trans rfl
              have hcz80_8 : wc.cell? ⟨gb138, 8, none⟩ = some (.int .i64 (rd y130 t133)) := (blk_cell BK138.out 8).trans rfl
              have hcz80_9 : wc.cell? ⟨gb138, 9, none⟩ = some (.int .i64 (wrap64 (1 + t136))) := (blk_cell BK138.out 9).trans rfl
              have hfz80_0 := blk_frozen BK138.out 0
              have hfz80_1 := blk_frozen BK138.out 1
              have hfz80_2 := blk_frozen BK138.out 2
              have hfz80_3 := blk_frozen BK138.out 3
              have hfz80_4 := blk_frozen BK138.out 4
              have hfz80_5 := blk_frozen BK138.out 5
              have hfz80_6 := blk_frozen BK138.out 6
              have hfz80_7 := blk_frozen BK138.out 7
              have hfz80_8 := blk_frozen BK138.out 8
              have hfz80_9 := blk_frozen BK138.out 9
              go_wp2
              go_meet
              case rel => exact ⟨_, (wrap64 (Int.tdiv (wrap64 ((rd y114 t117) + 1)) 2)), H', ⟨by have := HJ59.out; first | omega | exact Nat.le_refl _⟩, ⟨by (with_reducible repeat (first | refine blk_drewN ?_ _ | refine blk_drew ?_ | refine blk_alloc ?_ _)); refine blk_far ?_ NB107_138.out _; (with_reducible repeat (first | refine blk_drewN ?_ _ | refine blk_drew ?_ | refine blk_alloc ?_ _)); exact BK107.out⟩, ⟨by (with_reducible repeat (first | refine blk_drewN ?_ _ | refine blk_drew ?_ | refine blk_alloc ?_ _)); refine blk_put (cs := #[.int .i64 (wrap64 (1 + t108)), .int .i64 (wrap64 (1 + t110)), .int .i64 (wrap64 (1 + t112)), .int .i64 (rd y114 t117), .int .i64 (wrap64 (Int.tdiv (wrap64 ((rd y114 t117) + t139)) (wrap64 (1 + t141)))), .int .i64 (rd y120 t123), .int .i64 (wrap64 (1 + t126)), .bool (t128 == 0), .int .i64 (rd y130 t133), .int .i64 (wrap64 (1 + t136))]) ?_ 4 _ rfl; (with_reducible repeat (first | refine blk_drewN ?_ _ | refine blk_drew ?_ | refine blk_alloc ?_ _)); exact BK138.out⟩, ⟨by repeat (first | (with_reducible first | exact HI0.out | apply IsS115.alloc | apply IsS115.drewN | apply IsS115.drew | apply IsS115.set_1 | refine IsS115.far ?_ NB0_107.out _ | refine IsS115.far ?_ NB0_138.out _) | exact HI0.out)⟩, ⟨by repeat (first | (with_reducible first | exact HK.out | apply KeepBut.set_ | apply keep_drewN | apply keep_drew | apply keep_alloc | refine keep_far ?_ GW107.out _ | refine keep_far ?_ GW138.out _) | exact HK.out)⟩, ⟨by repeat (first | (with_reducible first | exact HB.out | apply below_alloc | apply pw_below_drewN | apply below_drew1 | refine below_set ?_ (IsS115.ge HI0.out) | refine below_set ?_ GE107.out | refine below_set ?_ GE138.out) | exact HB.out)⟩⟩
             ·replace c77 := Bool.eq_false_iff.mpr c77
              subst c77
              have H1 : (spec_l20Job.j1 kj59 s0_0 t142 (wrap64 (1 + t108)) (wrap64 (1 + t110)) (wrap64 (1 + t112)) (rd y114 t117) (wrap64 (Int.tdiv (wrap64 ((rd y114 t117) + t139)) (wrap64 (1 + t141)))) (rd y120 t123) (wrap64 (1 + t126)) (t128 == 0) (rd y130 t133) (wrap64 (1 + t136))) = some (r1, r2, r3, r4, r5, r6, r7, r8, r9, r10, r11) := by rw [if_neg (show ¬ (false = true) by decide)] at H; exact H
              clear H
              have H := H1
              clear H1
              have H' := Aside0.mk H
              clear H
              go_wp2
              go_meet
              case rel => exact ⟨_, ((wrap64 (Int.tdiv (wrap64 ((rd y114 t117) + t139)) (wrap64 (1 + t141))))), H', ⟨by have := HJ59.out; first | omega | exact Nat.le_refl _⟩, ⟨by (with_reducible repeat (first | refine blk_drewN ?_ _ | refine blk_drew ?_ | refine blk_alloc ?_ _)); exact BK107.out⟩, ⟨by (with_reducible repeat (first | refine blk_drewN ?_ _ | refine blk_drew ?_ | refine blk_alloc ?_ _)); exact BK138.out⟩, ⟨by repeat (first | (with_reducible first | exact HI0.out | apply IsS115.alloc | apply IsS115.drewN | apply IsS115.drew | apply IsS115.set_1 | refine IsS115.far ?_ NB0_107.out _ | refine IsS115.far ?_ NB0_138.out _) | exact HI0.out)⟩, ⟨by repeat (first | (with_reducible first | exact HK.out | apply KeepBut.set_ | apply keep_drewN | apply keep_drew | apply keep_alloc | refine keep_far ?_ GW107.out _ | refine keep_far ?_ GW138.out _) | exact HK.out)⟩, ⟨by repeat (first | (with_reducible first | exact HB.out | apply below_alloc | apply pw_below_drewN | apply below_drew1 | refine below_set ?_ (IsS115.ge HI0.out) | refine below_set ?_ GE107.out | refine below_set ?_ GE138.out) | exact HB.out)⟩⟩
            case rest =>
             clear HC76
             try clear p2
             try clear c5
             try clear c6
             try clear p6
             try clear c7
             try clear c53
             try clear c54
             try clear c56
             try clear c56b0
             try clear c56b1
             try clear c59
             try clear c59b0
             try clear c59b1
             try clear p64
             try clear c65
             try clear c65b0
             try clear c66
             try clear c67
             try clear c69
             try clear c69b0
             try clear c70
             try clear c71
             try clear c73
             try clear c74
             try clear c77
             try clear c78
             try clear c79
             try clear hcz55_0
             try clear hcz55_1
             try clear hcz55_2
             try clear hcz55_3
             try clear hcz55_4
             try clear hcz55_5
             try clear hcz55_6
             try clear hcz55_7
             try clear hcz55_8
             try clear hcz55_9
             try clear hcz68_0
             try clear hcz68_1
             try clear hcz68_2
             try clear hcz68_3
             try clear hcz68_4
             try clear hcz68_5
             try clear hcz68_6
             try clear hcz68_7
             try clear hcz68_8
             try clear hcz68_9
             try clear hcz72_0
             try clear hcz72_1
             try clear hcz72_2
             try clear hcz72_3
             try clear hcz72_4
             try clear hcz72_5
             try clear hcz72_6
             try clear hcz72_7
             try clear hcz72_8
             try clear hcz72_9
             try clear hcz75_0
             try clear hcz75_1
             try clear hcz75_2
             try clear hcz75_3
             try clear hcz75_4
             try clear hcz75_5
             try clear hcz75_6
             try clear hcz75_7
             try clear hcz75_8
             try clear hcz75_9
             try clear hcz80_0
             try clear hcz80_1
             try clear hcz80_2
             try clear hcz80_3
             try clear hcz80_4
             try clear hcz80_5
             try clear hcz80_6
             try clear hcz80_7
             try clear hcz80_8
             try clear hcz80_9
             try clear hfz55_0
             try clear hfz55_1
             try clear hfz55_2
             try clear hfz55_3
             try clear hfz55_4
             try clear hfz55_5
             try clear hfz55_6
             try clear hfz55_7
             try clear hfz55_8
             try clear hfz55_9
             try clear hfz68_0
             try clear hfz68_1
             try clear hfz68_2
             try clear hfz68_3
             try clear hfz68_4
             try clear hfz68_5
             try clear hfz68_6
             try clear hfz68_7
             try clear hfz68_8
             try clear hfz68_9
             try clear hfz72_0
             try clear hfz72_1
             try clear hfz72_2
             try clear hfz72_3
             try clear hfz72_4
             try clear hfz72_5
             try clear hfz72_6
             try clear hfz72_7
             try clear hfz72_8
             try clear hfz72_9
             try clear hfz75_0
             try clear hfz75_1
             try clear hfz75_2
             try clear hfz75_3
             try clear hfz75_4
             try clear hfz75_5
             try clear hfz75_6
             try clear hfz75_7
             try clear hfz75_8
             try clear hfz75_9
             try clear hfz80_0
             try clear hfz80_1
             try clear hfz80_2
             try clear hfz80_3
             try clear hfz80_4
             try clear hfz80_5
             try clear hfz80_6
             try clear hfz80_7
             try clear hfz80_8
             try clear hfz80_9
             try clear p2
             try clear p6
             try clear p64
             obtain ⟨kq, x139004_75, HA, HJ75, BK107, BK138, HI0, HK, HB⟩ := hcut
             cases kq with
             | zero => exact absurd HA.out (by simp [spec_l20Job.j1])
             | succ kj75 =>
              have H := HA.out
              clear HA
              simp only [spec_l20Job.j1] at H
              have H' := Aside0.mk H
              clear H
              go_wp2
              go_meet
              case rel => exact ⟨_, (t142), (x139004_75), H', ⟨by have := HJ59.out; have := HJ75.out; first | omega | exact Nat.le_refl _⟩, ⟨by (with_reducible repeat (first | refine blk_drewN ?_ _ | refine blk_drew ?_ | refine blk_alloc ?_ _)); exact BK107.out⟩, ⟨by (with_reducible repeat (first | refine blk_drewN ?_ _ | refine blk_drew ?_ | refine blk_alloc ?_ _)); exact BK138.out⟩, ⟨by repeat (first | (with_reducible first | exact HI0.out | apply IsS115.alloc | apply IsS115.drewN | apply IsS115.drew | apply IsS115.set_1 | refine IsS115.far ?_ NB0_107.out _ | refine IsS115.far ?_ NB0_138.out _) | exact HI0.out)⟩, ⟨by repeat (first | (with_reducible first | exact HK.out | apply KeepBut.set_ | apply keep_drewN | apply keep_drew | apply keep_alloc | refine keep_far ?_ GW107.out _ | refine keep_far ?_ GW138.out _) | exact HK.out)⟩, ⟨by repeat (first | (with_reducible first | exact HB.out | apply below_alloc | apply pw_below_drewN | apply below_drew1 | refine below_set ?_ (IsS115.ge HI0.out) | refine below_set ?_ GE107.out | refine below_set ?_ GE138.out) | exact HB.out)⟩⟩
        ·rw [if_neg c56] at H
         have c56b0 : ((wrap64 (1 + t112)) == 2) = false := beq_eq_false_iff_ne.mpr c56
         have c56b1 : ((wrap64 (1 + t112)) != 2) = true := bne_iff_ne.mpr c56
         (first | rw [c56b0] | (simp only [i64_w, i32_w]; rw [c56b0]) | skip)
         have H' := Aside0.mk H
         clear H
         go_wp2
         go_meet
         case rel => exact ⟨_, (t137), (0), H', ⟨by first | omega | exact Nat.le_refl _⟩, ⟨by (with_reducible repeat (first | refine blk_drewN ?_ _ | refine blk_drew ?_ | refine blk_alloc ?_ _)); exact BK107.out⟩, ⟨by (with_reducible repeat (first | refine blk_drewN ?_ _ | refine blk_drew ?_ | refine blk_alloc ?_ _)); exact BK138.out⟩, ⟨by repeat (first | (with_reducible first | exact HI0.out | apply IsS115.alloc | apply IsS115.drewN | apply IsS115.drew | apply IsS115.set_1 | refine IsS115.far ?_ NB0_107.out _ | refine IsS115.far ?_ NB0_138.out _) | exact HI0.out)⟩, ⟨by repeat (first | (with_reducible first | exact HK.out | apply KeepBut.set_ | apply keep_drewN | apply keep_drew | apply keep_alloc | refine keep_far ?_ GW107.out _ | refine keep_far ?_ GW138.out _) | exact HK.out)⟩, ⟨by repeat (first | (with_reducible first | exact HB.out | apply below_alloc | apply pw_below_drewN | apply below_drew1 | refine below_set ?_ (IsS115.ge HI0.out) | refine below_set ?_ GE107.out | refine below_set ?_ GE138.out) | exact HB.out)⟩⟩
       case rest =>
        clear HC17
        try clear p2
        try clear c5
        try clear c6
        try clear p6
        try clear c7
        try clear c53
        try clear c54
        try clear c56
        try clear c56b0
        try clear c56b1
        try clear c59
        try clear c59b0
        try clear c59b1
        try clear p64
        try clear c65
        try clear c65b0
        try clear c66
        try clear c67
        try clear c69
        try clear c69b0
        try clear c70
        try clear c71
        try clear c73
        try clear c74
        try clear c77
        try clear c78
        try clear c79
        try clear hcz55_0
        try clear hcz55_1
        try clear hcz55_2
        try clear hcz55_3
        try clear hcz55_4
        try clear hcz55_5
        try clear hcz55_6
        try clear hcz55_7
        try clear hcz55_8
        try clear hcz55_9
        try clear hcz68_0
        try clear hcz68_1
        try clear hcz68_2
        try clear hcz68_3
        try clear hcz68_4
        try clear hcz68_5
        try clear hcz68_6
        try clear hcz68_7
        try clear hcz68_8
        try clear hcz68_9
        try clear hcz72_0
        try clear hcz72_1
        try clear hcz72_2
        try clear hcz72_3
        try clear hcz72_4
        try clear hcz72_5
        try clear hcz72_6
        try clear hcz72_7
        try clear hcz72_8
        try clear hcz72_9
        try clear hcz75_0
        try clear hcz75_1
        try clear hcz75_2
        try clear hcz75_3
        try clear hcz75_4
        try clear hcz75_5
        try clear hcz75_6
        try clear hcz75_7
        try clear hcz75_8
        try clear hcz75_9
        try clear hcz80_0
        try clear hcz80_1
        try clear hcz80_2
        try clear hcz80_3
        try clear hcz80_4
        try clear hcz80_5
        try clear hcz80_6
        try clear hcz80_7
        try clear hcz80_8
        try clear hcz80_9
        try clear hfz55_0
        try clear hfz55_1
        try clear hfz55_2
        try clear hfz55_3
        try clear hfz55_4
        try clear hfz55_5
        try clear hfz55_6
        try clear hfz55_7
        try clear hfz55_8
        try clear hfz55_9
        try clear hfz68_0
        try clear hfz68_1
        try clear hfz68_2
        try clear hfz68_3
        try clear hfz68_4
        try clear hfz68_5
        try clear hfz68_6
        try clear hfz68_7
        try clear hfz68_8
        try clear hfz68_9
        try clear hfz72_0
        try clear hfz72_1
        try clear hfz72_2
        try clear hfz72_3
        try clear hfz72_4
        try clear hfz72_5
        try clear hfz72_6
        try clear hfz72_7
        try clear hfz72_8
        try clear hfz72_9
        try clear hfz75_0
        try clear hfz75_1
        try clear hfz75_2
        try clear hfz75_3
        try clear hfz75_4
        try clear hfz75_5
        try clear hfz75_6
        try clear hfz75_7
        try clear hfz75_8
        try clear hfz75_9
        try clear hfz80_0
        try clear hfz80_1
        try clear hfz80_2
        try clear hfz80_3
        try clear hfz80_4
        try clear hfz80_5
        try clear hfz80_6
        try clear hfz80_7
        try clear hfz80_8
        try clear hfz80_9
        try clear p2
        try clear p6
        try clear p64
        obtain ⟨kq, x1001_16, x139004_16, HA, HJ16, BK107, BK138, HI0, HK, HB⟩ := hcut
        cases kq with
        | zero => exact absurd HA.out (by simp [spec_l20Job.j2])
        | succ kj16 =>
         have H := HA.out
         clear HA
         simp only [spec_l20Job.j2] at H
         simp only [Option.some.injEq, Prod.mk.injEq] at H
         obtain ⟨rfl, rfl, rfl, rfl, rfl, rfl, rfl, rfl, rfl, rfl, rfl⟩ := H
         have hnb81 := NB138_107.out
         have hnc81 := NB107_138.out
         have hnb82 := NB138_0.out
         have hnc82 := NB0_138.out
         have hcz83_0 : wc.cell? ⟨gb138, 0, none⟩ = some (.int .i64 (wrap64 (1 + t108))) := (blk_cell BK138.out 0).trans rfl
         have hcz83_1 : wc.cell? ⟨gb138, 1, none⟩ = some (.int .i64 (wrap64 (1 + t110))) := (blk_cell BK138.out 1).trans rfl
         have hcz83_2 : wc.cell? ⟨gb138, 2, none⟩ = some (.int .i64 (wrap64 (1 + t112))) := (blk_cell BK138.out 2).trans rfl
         have hcz83_3 : wc.cell? ⟨gb138, 3, none⟩ = some (.int .i64 (rd y114 t117)) := (blk_cell BK138.out 3).trans rfl
         have hcz83_4 : wc.cell? ⟨gb138, 4, none⟩ = some (.int .i64 x139004_16) := (blk_cell BK138.out 4).trans rfl
         have hcz83_5 : wc.cell? ⟨gb138, 5, none⟩ = some (.int .i64 (rd y120 t123)) := (blk_cell BK138.out 5).trans rfl
         have hcz83_6 : wc.cell? ⟨gb138, 6, none⟩ = some (.int .i64 (wrap64 (1 + t126))) := (blk_cell BK138.out 6).trans rfl
         have hcz83_7 : wc.cell? ⟨gb138, 7, none⟩ = some (.bool (t128 == 0)) := (blk_cell BK138.out 7).trans rfl
         have hcz83_8 : wc.cell? ⟨gb138, 8, none⟩ = some (.int .i64 (rd y130 t133)) := (blk_cell BK138.out 8).trans rfl
         have hcz83_9 : wc.cell? ⟨gb138, 9, none⟩ = some (.int .i64 (wrap64 (1 + t136))) := (blk_cell BK138.out 9).trans rfl
         have hfz83_0 := blk_frozen BK138.out 0
         have hfz83_1 := blk_frozen BK138.out 1
         have hfz83_2 := blk_frozen BK138.out 2
         have hfz83_3 := blk_frozen BK138.out 3
         have hfz83_4 := blk_frozen BK138.out 4
         have hfz83_5 := blk_frozen BK138.out 5
         have hfz83_6 := blk_frozen BK138.out 6
         have hfz83_7 := blk_frozen BK138.out 7
         have hfz83_8 := blk_frozen BK138.out 8
         have hfz83_9 := blk_frozen BK138.out 9
         have hnb84 := NB107_0.out
         have hnc84 := NB0_107.out
         have hcz85_0 : wc.cell? ⟨gb107, 0, none⟩ = some (.int .i64 0) := (blk_cell BK107.out 0).trans rfl
         have hcz85_1 : wc.cell? ⟨gb107, 1, none⟩ = some (.int .i64 0) := (blk_cell BK107.out 1).trans rfl
         have hcz85_2 : wc.cell? ⟨gb107, 2, none⟩ = some (.int .i64 0) := (blk_cell BK107.out 2).trans rfl
         have hcz85_3 : wc.cell? ⟨gb107, 3, none⟩ = some (.int .i64 0) := (blk_cell BK107.out 3).trans rfl
         have hcz85_4 : wc.cell? ⟨gb107, 4, none⟩ = some (.int .i64 0) := (blk_cell BK107.out 4).trans rfl
         have hcz85_5 : wc.cell? ⟨gb107, 5, none⟩ = some (.int .i64 0) := (blk_cell BK107.out 5).trans rfl
         have hcz85_6 : wc.cell? ⟨gb107, 6, none⟩ = some (.int .i64 0) := (blk_cell BK107.out 6).trans rfl
         have hcz85_7 : wc.cell? ⟨gb107, 7, none⟩ = some (.bool false) := (blk_cell BK107.out 7).trans rfl
         have hcz85_8 : wc.cell? ⟨gb107, 8, none⟩ = some (.int .i64 0) := (blk_cell BK107.out 8).trans rfl
         have hcz85_9 : wc.cell? ⟨gb107, 9, none⟩ = some (.int .i64 0) := (blk_cell BK107.out 9).trans rfl
         have hfz85_0 := blk_frozen BK107.out 0
         have hfz85_1 := blk_frozen BK107.out 1
         have hfz85_2 := blk_frozen BK107.out 2
         have hfz85_3 := blk_frozen BK107.out 3
         have hfz85_4 := blk_frozen BK107.out 4
         have hfz85_5 := blk_frozen BK107.out 5
         have hfz85_6 := blk_frozen BK107.out 6
         have hfz85_7 := blk_frozen BK107.out 7
         have hfz85_8 := blk_frozen BK107.out 8
         have hfz85_9 := blk_frozen BK107.out 9
         go_wp2
         refine bodyPost_ret (results_cell_row rfl _ _ gb107 50 #[.int .i64 (wrap64 (1 + t108)), .int .i64 (wrap64 (1 + t110)), .int .i64 (wrap64 (1 + t112)), .int .i64 (rd y114 t117), .int .i64 x139004_16, .int .i64 (rd y120 t123), .int .i64 (wrap64 (1 + t126)), .bool (t128 == 0), .int .i64 (rd y130 t133), .int .i64 (wrap64 (1 + t136))] (0, 0) _ rfl (by (with_reducible repeat (first | refine blk_drewN ?_ _ | refine blk_drew ?_ | refine blk_alloc ?_ _)); refine blk_put (cs := #[.int .i64 (wrap64 (1 + t108)), .int .i64 (wrap64 (1 + t110)), .int .i64 (wrap64 (1 + t112)), .int .i64 (rd y114 t117), .int .i64 x139004_16, .int .i64 (rd y120 t123), .int .i64 (wrap64 (1 + t126)), .bool (t128 == 0), .int .i64 (rd y130 t133), .int .i64 0]) ?_ 9 _ rfl; (with_reducible repeat (first | refine blk_drewN ?_ _ | refine blk_drew ?_ | refine blk_alloc ?_ _)); refine blk_put (cs := #[.int .i64 (wrap64 (1 + t108)), .int .i64 (wrap64 (1 + t110)), .int .i64 (wrap64 (1 + t112)), .int .i64 (rd y114 t117), .int .i64 x139004_16, .int .i64 (rd y120 t123), .int .i64 (wrap64 (1 + t126)), .bool (t128 == 0), .int .i64 0, .int .i64 0]) ?_ 8 _ rfl; (with_reducible repeat (first | refine blk_drewN ?_ _ | refine blk_drew ?_ | refine blk_alloc ?_ _)); refine blk_put (cs := #[.int .i64 (wrap64 (1 + t108)), .int .i64 (wrap64 (1 + t110)), .int .i64 (wrap64 (1 + t112)), .int .i64 (rd y114 t117), .int .i64 x139004_16, .int .i64 (rd y120 t123), .int .i64 (wrap64 (1 + t126)), .bool false, .int .i64 0, .int .i64 0]) ?_ 7 _ rfl; (with_reducible repeat (first | refine blk_drewN ?_ _ | refine blk_drew ?_ | refine blk_alloc ?_ _)); refine blk_put (cs := #[.int .i64 (wrap64 (1 + t108)), .int .i64 (wrap64 (1 + t110)), .int .i64 (wrap64 (1 + t112)), .int .i64 (rd y114 t117), .int .i64 x139004_16, .int .i64 (rd y120 t123), .int .i64 0, .bool false, .int .i64 0, .int .i64 0]) ?_ 6 _ rfl; (with_reducible repeat (first | refine blk_drewN ?_ _ | refine blk_drew ?_ | refine blk_alloc ?_ _)); refine blk_put (cs := #[.int .i64 (wrap64 (1 + t108)), .int .i64 (wrap64 (1 + t110)), .int .i64 (wrap64 (1 + t112)), .int .i64 (rd y114 t117), .int .i64 x139004_16, .int .i64 0, .int .i64 0, .bool false, .int .i64 0, .int .i64 0]) ?_ 5 _ rfl; (with_reducible repeat (first | refine blk_drewN ?_ _ | refine blk_drew ?_ | refine blk_alloc ?_ _)); refine blk_put (cs := #[.int .i64 (wrap64 (1 + t108)), .int .i64 (wrap64 (1 + t110)), .int .i64 (wrap64 (1 + t112)), .int .i64 (rd y114 t117), .int .i64 0, .int .i64 0, .int .i64 0, .bool false, .int .i64 0, .int .i64 0]) ?_ 4 _ rfl; (with_reducible repeat (first | refine blk_drewN ?_ _ | refine blk_drew ?_ | refine blk_alloc ?_ _)); refine blk_put (cs := #[.int .i64 (wrap64 (1 + t108)), .int .i64 (wrap64 (1 + t110)), .int .i64 (wrap64 (1 + t112)), .int .i64 0, .int .i64 0, .int .i64 0, .int .i64 0, .bool false, .int .i64 0, .int .i64 0]) ?_ 3 _ rfl; (with_reducible repeat (first | refine blk_drewN ?_ _ | refine blk_drew ?_ | refine blk_alloc ?_ _)); refine blk_put (cs := #[.int .i64 (wrap64 (1 + t108)), .int .i64 (wrap64 (1 + t110)), .int .i64 0, .int .i64 0, .int .i64 0, .int .i64 0, .int .i64 0, .bool false, .int .i64 0, .int .i64 0]) ?_ 2 _ rfl; (with_reducible repeat (first | refine blk_drewN ?_ _ | refine blk_drew ?_ | refine blk_alloc ?_ _)); refine blk_put (cs := #[.int .i64 (wrap64 (1 + t108)), .int .i64 0, .int .i64 0, .int .i64 0, .int .i64 0, .int .i64 0, .int .i64 0, .bool false, .int .i64 0, .int .i64 0]) ?_ 1 _ rfl; (with_reducible repeat (first | refine blk_drewN ?_ _ | refine blk_drew ?_ | refine blk_alloc ?_ _)); refine blk_put (cs := #[.int .i64 0, .int .i64 0, .int .i64 0, .int .i64 0, .int .i64 0, .int .i64 0, .int .i64 0, .bool false, .int .i64 0, .int .i64 0]) ?_ 0 _ rfl; (with_reducible repeat (first | refine blk_drewN ?_ _ | refine blk_drew ?_ | refine blk_alloc ?_ _)); exact BK107.out) Try.underlying50 rfl (by kernel_rfl)) rfl ?_
         exact ⟨by first | rfl | (simp [errW_none, errW_some] <;> rfl) | (simp [*, errW_none, errW_some] <;> rfl), by repeat (first | (with_reducible first | exact HI0.out | apply IsS115.alloc | apply IsS115.drewN | apply IsS115.drew | apply IsS115.set_1 | refine IsS115.far ?_ NB0_107.out _ | refine IsS115.far ?_ NB0_138.out _) | exact HI0.out), by repeat (first | (with_reducible first | exact HB.out | apply below_alloc | apply pw_below_drewN | apply below_drew1 | refine below_set ?_ (IsS115.ge HI0.out) | refine below_set ?_ GE107.out | refine below_set ?_ GE138.out) | exact HB.out), by repeat (first | (with_reducible first | exact HK.out | apply KeepBut.set_ | apply keep_drewN | apply keep_drew | apply keep_alloc | refine keep_far ?_ GW107.out _ | refine keep_far ?_ GW138.out _) | exact HK.out)⟩
      ·rw [if_neg c15] at H
       exact absurd H (by simp)
     ·rw [if_neg c14] at H
      exact absurd H (by simp)
    ·rw [if_neg c10] at H
     exact absurd H (by simp)
   ·rw [if_neg c9] at H
    exact absurd H (by simp)
  ·rw [if_neg c7] at H
   exact absurd H (by simp)
 ·rw [if_neg c6] at H
  exact absurd H (by simp)

end Go.Proofs.Ytkmckalckafloaa.PFnWinStep
-- thin
