/- Functions of the program as Lean functions, with their contracts, written by a program of mine over the kit's printer and in part by hand. No condition of its own. -/
import Derived.Test.YtkmckalckafloaaQFnWinStepx0
import Derived.Test.YtkmckalckafloaaQFnWinStepx2
import Derived.Test.YtkmckalckafloaaQFnWinStepx3
namespace Go.Proofs.Ytkmckalckafloaa.PFnWinStep
open Go.RowKit Go.Proofs.YtkmckalckafloaaW.PrintWords Go.Proofs.YtkmckalckafloaaW.PrintLast Go.Proofs.YtkmckalckafloaaW.PrintMore
attribute [local go_sem] max2_int min2_int max_two min_two max_three min_three max_four min_four   -- for this text's walks alone
set_option linter.unusedVariables false
set_option linter.unusedSimpArgs false

/-! ### spec_l20AnyJob: function 73 -/
def spec_l20AnyJob.j0 : Nat → List Int → Int → Int → Int → Int → Int → Int → Int → Int → Bool → Int → Int → Option (Int × Int × Int × Int × Int × Int × Int × Bool × Int × Int × Int)
 | 0, _, _, _, _, _, _, _, _, _, _, _, _ => none
 | k + 1, x1000, x1001, x156000, x156001, x156002, x156003, x156004, x156005, x156006, x156007, x156008, x156009 => some (x156000, x156001, x156002, x156003, x156004, x156005, x156006, x156007, x156008, x156009, x1001)
def spec_l20AnyJob.f (k : Nat) (s0_0 : List Int) (s0_1 : Int) (a1 : Int) : Option (Int × Int × Int × Int × Int × Int × Int × Bool × Int × Int × Int) := (spec_l20Job.f k s0_0 s0_1).bind fun bt144 => ((spec_l20Rd_pick.f k s0_0 bt144.2.2.2.2.2.2.2.2.2.2 a1).bind fun bt156 => (if bt156.1 > 0 then (some (bt144.1, bt144.2.1, bt144.2.2.1, bt144.2.2.2.1, bt144.2.2.2.2.1, bt144.2.2.2.2.2.1, bt144.2.2.2.2.2.2.1, bt144.2.2.2.2.2.2.2.1, bt144.2.2.2.2.2.2.2.2.1, bt144.2.2.2.2.2.2.2.2.2.1, bt156.2)) else ((some (([(-1), 0, 3, 4, 5, 21, 10, 1] : List Int) : List Int)).bind fun y158 => ((spec_l20Rd_pick.f k s0_0 bt156.2 8).bind fun bt161 => (if 0 ≤ bt161.1 then (if bt161.1 < (y158.length : Int) then ((spec_l20Rd_pick.f k s0_0 bt161.2 9).bind fun bt164 => (if bt164.1 = 0 then (spec_l20AnyJob.j0 k s0_0 bt164.2 (rd y158 bt161.1) bt144.2.1 bt144.2.2.1 bt144.2.2.2.1 bt144.2.2.2.2.1 bt144.2.2.2.2.2.1 bt144.2.2.2.2.2.2.1 bt144.2.2.2.2.2.2.2.1 bt144.2.2.2.2.2.2.2.2.1 bt144.2.2.2.2.2.2.2.2.2.1) else (if bt164.1 = 1 then (spec_l20AnyJob.j0 k s0_0 bt164.2 bt144.1 (rd y158 bt161.1) bt144.2.2.1 bt144.2.2.2.1 bt144.2.2.2.2.1 bt144.2.2.2.2.2.1 bt144.2.2.2.2.2.2.1 bt144.2.2.2.2.2.2.2.1 bt144.2.2.2.2.2.2.2.2.1 bt144.2.2.2.2.2.2.2.2.2.1) else (if bt164.1 = 2 then (spec_l20AnyJob.j0 k s0_0 bt164.2 bt144.1 bt144.2.1 (rd y158 bt161.1) bt144.2.2.2.1 bt144.2.2.2.2.1 bt144.2.2.2.2.2.1 bt144.2.2.2.2.2.2.1 bt144.2.2.2.2.2.2.2.1 bt144.2.2.2.2.2.2.2.2.1 bt144.2.2.2.2.2.2.2.2.2.1) else (if bt164.1 = 3 then (spec_l20AnyJob.j0 k s0_0 bt164.2 bt144.1 bt144.2.1 bt144.2.2.1 (rd y158 bt161.1) bt144.2.2.2.2.1 bt144.2.2.2.2.2.1 bt144.2.2.2.2.2.2.1 bt144.2.2.2.2.2.2.2.1 bt144.2.2.2.2.2.2.2.2.1 bt144.2.2.2.2.2.2.2.2.2.1) else (if bt164.1 = 4 then (spec_l20AnyJob.j0 k s0_0 bt164.2 bt144.1 bt144.2.1 bt144.2.2.1 bt144.2.2.2.1 (rd y158 bt161.1) bt144.2.2.2.2.2.1 bt144.2.2.2.2.2.2.1 bt144.2.2.2.2.2.2.2.1 bt144.2.2.2.2.2.2.2.2.1 bt144.2.2.2.2.2.2.2.2.2.1) else (if bt164.1 = 5 then (spec_l20AnyJob.j0 k s0_0 bt164.2 bt144.1 bt144.2.1 bt144.2.2.1 bt144.2.2.2.1 bt144.2.2.2.2.1 (rd y158 bt161.1) bt144.2.2.2.2.2.2.1 bt144.2.2.2.2.2.2.2.1 bt144.2.2.2.2.2.2.2.2.1 bt144.2.2.2.2.2.2.2.2.2.1) else (if bt164.1 = 6 then (spec_l20AnyJob.j0 k s0_0 bt164.2 bt144.1 bt144.2.1 bt144.2.2.1 bt144.2.2.2.1 bt144.2.2.2.2.1 bt144.2.2.2.2.2.1 (rd y158 bt161.1) bt144.2.2.2.2.2.2.2.1 bt144.2.2.2.2.2.2.2.2.1 bt144.2.2.2.2.2.2.2.2.2.1) else (if bt164.1 = 7 then (spec_l20AnyJob.j0 k s0_0 bt164.2 bt144.1 bt144.2.1 bt144.2.2.1 bt144.2.2.2.1 bt144.2.2.2.2.1 bt144.2.2.2.2.2.1 bt144.2.2.2.2.2.2.1 bt144.2.2.2.2.2.2.2.1 (wrap64 ((rd y158 bt161.1) * 2)) bt144.2.2.2.2.2.2.2.2.2.1) else (spec_l20AnyJob.j0 k s0_0 bt164.2 bt144.1 bt144.2.1 bt144.2.2.1 bt144.2.2.2.1 bt144.2.2.2.2.1 bt144.2.2.2.2.2.1 bt144.2.2.2.2.2.2.1 bt144.2.2.2.2.2.2.2.1 bt144.2.2.2.2.2.2.2.2.1 (rd y158 bt161.1))))))))))) else (none)) else (none))))))
theorem spec_l20AnyJob.mono_l : ∀ k, (∀ y0 y1 y2 y3 y4 y5 y6 y7 y8 y9 y10 y11, LeO (spec_l20AnyJob.j0 k y0 y1 y2 y3 y4 y5 y6 y7 y8 y9 y10 y11) (spec_l20AnyJob.j0 (k + 1) y0 y1 y2 y3 y4 y5 y6 y7 y8 y9 y10 y11))
 | 0 => fun _ _ _ _ _ _ _ _ _ _ _ _ r h => by simp [spec_l20AnyJob.j0] at h
 | k + 1 => by
  have ih0 := spec_l20AnyJob.mono_l k
  ·intro y0 y1 y2 y3 y4 y5 y6 y7 y8 y9 y10 y11
   unfold spec_l20AnyJob.j0
   repeat' first
   | (with_reducible exact ih0 _ _ _ _ _ _ _ _ _ _ _ _)
   | (with_reducible exact spec_l20Job.mono _ _ _)
   | (with_reducible exact spec_l20Rd_pick.mono _ _ _ _)
   | (with_reducible exact LeO.refl _)
   | (with_reducible exact LeO.none _)
   | (with_reducible refine LeO.ite ?_ ?_)
   | (with_reducible refine LeO.bind ?_ (fun _ => ?_))
   | exact ih0 _ _ _ _ _ _ _ _ _ _ _ _
   | exact spec_l20Job.mono _ _ _
   | exact spec_l20Rd_pick.mono _ _ _ _
   | exact LeO.none _
   | refine LeO.ite ?_ ?_
   | refine LeO.bind ?_ (fun _ => ?_)
theorem spec_l20AnyJob.mono : ∀ a0 a1 a2 k, LeO (spec_l20AnyJob.f k a0 a1 a2) (spec_l20AnyJob.f (k + 1) a0 a1 a2) := by
 intro a0 a1 a2 k
 have ih0 := spec_l20AnyJob.mono_l k
 unfold spec_l20AnyJob.f
 repeat' first
   | (with_reducible exact ih0 _ _ _ _ _ _ _ _ _ _ _ _)
   | (with_reducible exact spec_l20Job.mono _ _ _)
   | (with_reducible exact spec_l20Rd_pick.mono _ _ _ _)
   | (with_reducible exact LeO.refl _)
   | (with_reducible exact LeO.none _)
   | (with_reducible refine LeO.ite ?_ ?_)
   | (with_reducible refine LeO.bind ?_ (fun _ => ?_))
   | exact ih0 _ _ _ _ _ _ _ _ _ _ _ _
   | exact spec_l20Job.mono _ _ _
   | exact spec_l20Rd_pick.mono _ _ _ _
   | exact LeO.none _
   | refine LeO.ite ?_ ?_
   | refine LeO.bind ?_ (fun _ => ?_)
set_option maxHeartbeats 8000000 in
set_option maxRecDepth 100000 in
theorem spec_l20AnyJob.calls (k : Nat) (g : Nat) (s0_0 : List Int) (s0_1 : Int) (a1 : Int) (r1 : Int) (r2 : Int) (r3 : Int) (r4 : Int) (r5 : Int) (r6 : Int) (r7 : Int) (r8 : Bool) (r9 : Int) (r10 : Int) (r11 : Int) (w0 w : World) (hI : IsS115 w0 w g s0_0 s0_1) (hB : Below w0.heap.size w0 w) (h : spec_l20AnyJob.f k s0_0 s0_1 a1 = some (r1, r2, r3, r4, r5, r6, r7, r8, r9, r10, r11)) :
  Calls Try.prog 73 #[.pointer (some ⟨g, 0, none⟩), .int .i64 a1] w fun e w' => e = .returned (.agg #[.int .i64 r1, .int .i64 r2, .int .i64 r3, .int .i64 r4, .int .i64 r5, .int .i64 r6, .int .i64 r7, .bool r8, .int .i64 r9, .int .i64 r10]) ∧ IsS115 w0 w' g s0_0 r11 ∧ Below w0.heap.size w0 w' ∧ KeepBut w w' g none := by
 have hu50 := Try.underlying50
 have HI0 := Aside0.mk hI
 have HG0 := Aside0.mk (show g < w.heap.size from hI.lt)
 have HK := Aside0.mk (KeepBut.refl w g none)
 have HL := Aside0.mk hB.size
 clear hI
 have HW0 := Aside0.mk hB.size
 have HB := Aside0.mk hB
 clear hB
 have H : ((spec_l20Job.f k s0_0 s0_1).bind fun bt144 => ((spec_l20Rd_pick.f k s0_0 bt144.2.2.2.2.2.2.2.2.2.2 a1).bind fun bt156 => (if bt156.1 > 0 then (some (bt144.1, bt144.2.1, bt144.2.2.1, bt144.2.2.2.1, bt144.2.2.2.2.1, bt144.2.2.2.2.2.1, bt144.2.2.2.2.2.2.1, bt144.2.2.2.2.2.2.2.1, bt144.2.2.2.2.2.2.2.2.1, bt144.2.2.2.2.2.2.2.2.2.1, bt156.2)) else ((some (([(-1), 0, 3, 4, 5, 21, 10, 1] : List Int) : List Int)).bind fun y158 => ((spec_l20Rd_pick.f k s0_0 bt156.2 8).bind fun bt161 => (if 0 ≤ bt161.1 then (if bt161.1 < (y158.length : Int) then ((spec_l20Rd_pick.f k s0_0 bt161.2 9).bind fun bt164 => (if bt164.1 = 0 then (spec_l20AnyJob.j0 k s0_0 bt164.2 (rd y158 bt161.1) bt144.2.1 bt144.2.2.1 bt144.2.2.2.1 bt144.2.2.2.2.1 bt144.2.2.2.2.2.1 bt144.2.2.2.2.2.2.1 bt144.2.2.2.2.2.2.2.1 bt144.2.2.2.2.2.2.2.2.1 bt144.2.2.2.2.2.2.2.2.2.1) else (if bt164.1 = 1 then (spec_l20AnyJob.j0 k s0_0 bt164.2 bt144.1 (rd y158 bt161.1) bt144.2.2.1 bt144.2.2.2.1 bt144.2.2.2.2.1 bt144.2.2.2.2.2.1 bt144.2.2.2.2.2.2.1 bt144.2.2.2.2.2.2.2.1 bt144.2.2.2.2.2.2.2.2.1 bt144.2.2.2.2.2.2.2.2.2.1) else (if bt164.1 = 2 then (spec_l20AnyJob.j0 k s0_0 bt164.2 bt144.1 bt144.2.1 (rd y158 bt161.1) bt144.2.2.2.1 bt144.2.2.2.2.1 bt144.2.2.2.2.2.1 bt144.2.2.2.2.2.2.1 bt144.2.2.2.2.2.2.2.1 bt144.2.2.2.2.2.2.2.2.1 bt144.2.2.2.2.2.2.2.2.2.1) else (if bt164.1 = 3 then (spec_l20AnyJob.j0 k s0_0 bt164.2 bt144.1 bt144.2.1 bt144.2.2.1 (rd y158 bt161.1) bt144.2.2.2.2.1 bt144.2.2.2.2.2.1 bt144.2.2.2.2.2.2.1 bt144.2.2.2.2.2.2.2.1 bt144.2.2.2.2.2.2.2.2.1 bt144.2.2.2.2.2.2.2.2.2.1) else (if bt164.1 = 4 then (spec_l20AnyJob.j0 k s0_0 bt164.2 bt144.1 bt144.2.1 bt144.2.2.1 bt144.2.2.2.1 (rd y158 bt161.1) bt144.2.2.2.2.2.1 bt144.2.2.2.2.2.2.1 bt144.2.2.2.2.2.2.2.1 bt144.2.2.2.2.2.2.2.2.1 bt144.2.2.2.2.2.2.2.2.2.1) else (if bt164.1 = 5 then (spec_l20AnyJob.j0 k s0_0 bt164.2 bt144.1 bt144.2.1 bt144.2.2.1 bt144.2.2.2.1 bt144.2.2.2.2.1 (rd y158 bt161.1) bt144.2.2.2.2.2.2.1 bt144.2.2.2.2.2.2.2.1 bt144.2.2.2.2.2.2.2.2.1 bt144.2.2.2.2.2.2.2.2.2.1) else (if bt164.1 = 6 then (spec_l20AnyJob.j0 k s0_0 bt164.2 bt144.1 bt144.2.1 bt144.2.2.1 bt144.2.2.2.1 bt144.2.2.2.2.1 bt144.2.2.2.2.2.1 (rd y158 bt161.1) bt144.2.2.2.2.2.2.2.1 bt144.2.2.2.2.2.2.2.2.1 bt144.2.2.2.2.2.2.2.2.2.1) else (if bt164.1 = 7 then (spec_l20AnyJob.j0 k s0_0 bt164.2 bt144.1 bt144.2.1 bt144.2.2.1 bt144.2.2.2.1 bt144.2.2.2.2.1 bt144.2.2.2.2.2.1 bt144.2.2.2.2.2.2.1 bt144.2.2.2.2.2.2.2.1 (wrap64 ((rd y158 bt161.1) * 2)) bt144.2.2.2.2.2.2.2.2.2.1) else (spec_l20AnyJob.j0 k s0_0 bt164.2 bt144.1 bt144.2.1 bt144.2.2.1 bt144.2.2.2.1 bt144.2.2.2.2.1 bt144.2.2.2.2.2.1 bt144.2.2.2.2.2.2.1 bt144.2.2.2.2.2.2.2.1 bt144.2.2.2.2.2.2.2.2.1 (rd y158 bt161.1))))))))))) else (none)) else (none))))))) = some (r1, r2, r3, r4, r5, r6, r7, r8, r9, r10, r11) := h
 clear h
 replace H := Option.bind_eq_some_iff.mp H
 obtain ⟨⟨t144, t145, t146, t147, t148, t149, t150, t151, t152, t153, t154⟩, A30, H⟩ := H
 replace H : ((spec_l20Rd_pick.f k s0_0 t154 a1).bind fun bt156 => (if bt156.1 > 0 then (some (t144, t145, t146, t147, t148, t149, t150, t151, t152, t153, bt156.2)) else ((some (([(-1), 0, 3, 4, 5, 21, 10, 1] : List Int) : List Int)).bind fun y158 => ((spec_l20Rd_pick.f k s0_0 bt156.2 8).bind fun bt161 => (if 0 ≤ bt161.1 then (if bt161.1 < (y158.length : Int) then ((spec_l20Rd_pick.f k s0_0 bt161.2 9).bind fun bt164 => (if bt164.1 = 0 then (spec_l20AnyJob.j0 k s0_0 bt164.2 (rd y158 bt161.1) t145 t146 t147 t148 t149 t150 t151 t152 t153) else (if bt164.1 = 1 then (spec_l20AnyJob.j0 k s0_0 bt164.2 t144 (rd y158 bt161.1) t146 t147 t148 t149 t150 t151 t152 t153) else (if bt164.1 = 2 then (spec_l20AnyJob.j0 k s0_0 bt164.2 t144 t145 (rd y158 bt161.1) t147 t148 t149 t150 t151 t152 t153) else (if bt164.1 = 3 then (spec_l20AnyJob.j0 k s0_0 bt164.2 t144 t145 t146 (rd y158 bt161.1) t148 t149 t150 t151 t152 t153) else (if bt164.1 = 4 then (spec_l20AnyJob.j0 k s0_0 bt164.2 t144 t145 t146 t147 (rd y158 bt161.1) t149 t150 t151 t152 t153) else (if bt164.1 = 5 then (spec_l20AnyJob.j0 k s0_0 bt164.2 t144 t145 t146 t147 t148 (rd y158 bt161.1) t150 t151 t152 t153) else (if bt164.1 = 6 then (spec_l20AnyJob.j0 k s0_0 bt164.2 t144 t145 t146 t147 t148 t149 (rd y158 bt161.1) t151 t152 t153) else (if bt164.1 = 7 then (spec_l20AnyJob.j0 k s0_0 bt164.2 t144 t145 t146 t147 t148 t149 t150 t151 (wrap64 ((rd y158 bt161.1) * 2)) t153) else (spec_l20AnyJob.j0 k s0_0 bt164.2 t144 t145 t146 t147 t148 t149 t150 t151 t152 (rd y158 bt161.1))))))))))) else (none)) else (none)))))) = some (r1, r2, r3, r4, r5, r6, r7, r8, r9, r10, r11) := H
 have A3 := Aside0.mk A30
 clear A30
 replace H := Option.bind_eq_some_iff.mp H
 obtain ⟨⟨t156, t157⟩, A40, H⟩ := H
 replace H : (if t156 > 0 then (some (t144, t145, t146, t147, t148, t149, t150, t151, t152, t153, t157)) else ((some (([(-1), 0, 3, 4, 5, 21, 10, 1] : List Int) : List Int)).bind fun y158 => ((spec_l20Rd_pick.f k s0_0 t157 8).bind fun bt161 => (if 0 ≤ bt161.1 then (if bt161.1 < (y158.length : Int) then ((spec_l20Rd_pick.f k s0_0 bt161.2 9).bind fun bt164 => (if bt164.1 = 0 then (spec_l20AnyJob.j0 k s0_0 bt164.2 (rd y158 bt161.1) t145 t146 t147 t148 t149 t150 t151 t152 t153) else (if bt164.1 = 1 then (spec_l20AnyJob.j0 k s0_0 bt164.2 t144 (rd y158 bt161.1) t146 t147 t148 t149 t150 t151 t152 t153) else (if bt164.1 = 2 then (spec_l20AnyJob.j0 k s0_0 bt164.2 t144 t145 (rd y158 bt161.1) t147 t148 t149 t150 t151 t152 t153) else (if bt164.1 = 3 then (spec_l20AnyJob.j0 k s0_0 bt164.2 t144 t145 t146 (rd y158 bt161.1) t148 t149 t150 t151 t152 t153) else (if bt164.1 = 4 then (spec_l20AnyJob.j0 k s0_0 bt164.2 t144 t145 t146 t147 (rd y158 bt161.1) t149 t150 t151 t152 t153) else (if bt164.1 = 5 then (spec_l20AnyJob.j0 k s0_0 bt164.2 t144 t145 t146 t147 t148 (rd y158 bt161.1) t150 t151 t152 t153) else (if bt164.1 = 6 then (spec_l20AnyJob.j0 k s0_0 bt164.2 t144 t145 t146 t147 t148 t149 (rd y158 bt161.1) t151 t152 t153) else (if bt164.1 = 7 then (spec_l20AnyJob.j0 k s0_0 bt164.2 t144 t145 t146 t147 t148 t149 t150 t151 (wrap64 ((rd y158 bt161.1) * 2)) t153) else (spec_l20AnyJob.j0 k s0_0 bt164.2 t144 t145 t146 t147 t148 t149 t150 t151 t152 (rd y158 bt161.1))))))))))) else (none)) else (none))))) = some (r1, r2, r3, r4, r5, r6, r7, r8, r9, r10, r11) := H
 have A4 := Aside0.mk A40
 clear A40
 by_cases c5 : t156 > 0
 ·rw [if_pos c5] at H
  have c5b0 : decide (0 < t156) = true := decide_eq_true c5
  clear c5
  simp only [Option.some.injEq, Prod.mk.injEq] at H
  obtain ⟨rfl, rfl, rfl, rfl, rfl, rfl, rfl, rfl, rfl, rfl, rfl⟩ := H
  go_enter Try.func73, Try.ntmps73
  go_wp2_with (first | ((with_reducible refine gate_dst (N := 4) rfl ?_); refine box_event ?hg (N := 4) ?hd (cs := #[.int .i64 0, .int .i64 0, .int .i64 0, .int .i64 0, .int .i64 0, .int .i64 0, .int .i64 0, .bool false, .int .i64 0, .int .i64 0]) (t := 50) ?hr ?_; (case hd => rfl); (case hg => rfl); (case hr => first | (go_simp; done) | (go_simp; rfl)); intro gb143 hg w6 hbox hb; have n0_ := Aside0.mk (IsS115.below (by repeat (first | (with_reducible first | exact HI0.out | apply IsS115.alloc | apply IsS115.drewN | apply IsS115.drew | apply IsS115.set_1) | exact HI0.out)) hb); have n1_ := Aside0.mk (KeepBut.trans (by repeat (first | (with_reducible first | exact HK.out | apply KeepBut.set_ | apply keep_drewN | apply keep_drew | apply keep_alloc) | exact HK.out)) (KeepBut.of_below hb g none) (.inl rfl)); have n2_ := Aside0.mk (below_step (by repeat (first | (with_reducible first | exact HB.out | apply below_alloc | apply pw_below_drewN | apply below_drew1 | refine below_set ?_ (IsS115.ge HI0.out)) | exact HB.out)) hb); have n3_ := Aside0.mk (hbox); have n4_ := Aside0.mk ((by rw [hg]; exact (keep_size (w := w) (g := g) (row := none) (by repeat (first | (with_reducible first | exact HK.out | apply KeepBut.set_ | apply keep_drewN | apply keep_drew | apply keep_alloc) | exact HK.out))) : w.heap.size ≤ gb143)); have n5_ := Aside0.mk ((Nat.le_trans HW0.out (by rw [hg]; exact (keep_size (w := w) (g := g) (row := none) (by repeat (first | (with_reducible first | exact HK.out | apply KeepBut.set_ | apply keep_drewN | apply keep_drew | apply keep_alloc) | exact HK.out))) : w.heap.size ≤ gb143) : w0.heap.size ≤ gb143)); have n6_ := Aside0.mk ((by rw [hg]; exact Nat.ne_of_lt (Nat.lt_of_lt_of_le HG0.out (keep_size (w := w) (g := g) (row := none) (by repeat (first | (with_reducible first | exact HK.out | apply KeepBut.set_ | apply keep_drewN | apply keep_drew | apply keep_alloc) | exact HK.out)))) : g ≠ gb143)); have n7_ := Aside0.mk ((by rw [hg]; exact Nat.ne_of_gt (Nat.lt_of_lt_of_le HG0.out (keep_size (w := w) (g := g) (row := none) (by repeat (first | (with_reducible first | exact HK.out | apply KeepBut.set_ | apply keep_drewN | apply keep_drew | apply keep_alloc) | exact HK.out)))) : gb143 ≠ g)); clear HI0; clear HK; clear HB; have HI0 := n0_; have HK := n1_; have HB := n2_; have BK143 := n3_; have GW143 := n4_; have GE143 := n5_; have NB0_143 := n6_; have NB143_0 := n7_; clear n0_ n1_ n2_ n3_ n4_ n5_ n6_ n7_; clear hb hbox hg) | ((with_reducible refine gate_callee (f := 88) rfl ?_); refine goesL_ (some 8) rfl rfl Try.func88 (by kernel_rfl) rfl #[.pointer (some ⟨g, 0, none⟩)] rfl (by (try simp only [List.map_toArray, List.map_cons, List.map_nil]); first | done | rfl | (simp only [List.length_drop, List.length_take]; rfl)) ?_; (with_reducible refine (spec_l20Job.calls k g s0_0 s0_1 t144 t145 t146 t147 t148 t149 t150 t151 t152 t153 t154 w0 _ ?side1 ?side2 A3.out).mono ?_); (case side1 => repeat (first | (with_reducible first | exact HI0.out | apply IsS115.alloc | apply IsS115.drewN | apply IsS115.drew | apply IsS115.set_1 | refine IsS115.far ?_ NB0_143.out _) | exact HI0.out)); (case side2 => repeat (first | (with_reducible first | exact HB.out | apply below_alloc | apply pw_below_drewN | apply below_drew1 | refine below_set ?_ (IsS115.ge HI0.out) | refine below_set ?_ GE143.out) | exact HB.out)); rintro e w7 ⟨rfl, hi, hb, hk⟩; refine ⟨_, rfl, ?_⟩; have n0_ := Aside0.mk (KeepBut.blk hk (g' := gb143) (o := .cells #[.int .i64 0, .int .i64 0, .int .i64 0, .int .i64 0, .int .i64 0, .int .i64 0, .int .i64 0, .bool false, .int .i64 0, .int .i64 0] 50 (0, 0)) (by (with_reducible repeat (first | refine blk_drewN ?_ _ | refine blk_drew ?_ | refine blk_alloc ?_ _)); exact BK143.out) NB143_0.out (by simp)); have n1_ := Aside0.mk (KeepBut.trans (by repeat (first | (with_reducible first | exact HK.out | apply KeepBut.set_ | apply keep_drewN | apply keep_drew | apply keep_alloc | refine keep_far ?_ GW143.out _) | exact HK.out)) hk (.inl rfl)); have n2_ := Aside0.mk (hb); have n3_ := Aside0.mk (hi); clear BK143; clear HK; clear HB; clear HI0; have BK143 := n0_; have HK := n1_; have HB := n2_; have HI0 := n3_; clear n0_ n1_ n2_ n3_; (try clear hb); (try clear hb2); (try clear hk); (try clear hi)) | ((with_reducible refine gate_dst (N := 5) rfl ?_); refine box_event ?hg (N := 5) ?hd (cs := #[.int .i64 0, .int .i64 0, .int .i64 0, .int .i64 0, .int .i64 0, .int .i64 0, .int .i64 0, .bool false, .int .i64 0, .int .i64 0]) (t := 50) ?hr ?_; (case hd => rfl); (case hg => rfl); (case hr => first | (go_simp; done) | (go_simp; rfl)); intro gb155 hg w8 hbox hb; have n0_ := Aside0.mk (IsS115.below (by repeat (first | (with_reducible first | exact HI0.out | apply IsS115.alloc | apply IsS115.drewN | apply IsS115.drew | apply IsS115.set_1 | refine IsS115.far ?_ NB0_143.out _) | exact HI0.out)) hb); have n1_ := Aside0.mk (blk_below (g := gb143) (o := .cells #[.int .i64 0, .int .i64 0, .int .i64 0, .int .i64 0, .int .i64 0, .int .i64 0, .int .i64 0, .bool false, .int .i64 0, .int .i64 0] 50 (0, 0)) (by (with_reducible repeat (first | refine blk_drewN ?_ _ | refine blk_drew ?_ | refine blk_alloc ?_ _)); exact BK143.out) hb); have n2_ := Aside0.mk (KeepBut.trans (by repeat (first | (with_reducible first | exact HK.out | apply KeepBut.set_ | apply keep_drewN | apply keep_drew | apply keep_alloc | refine keep_far ?_ GW143.out _) | exact HK.out)) (KeepBut.of_below hb g none) (.inl rfl)); have n3_ := Aside0.mk (below_step (by repeat (first | (with_reducible first | exact HB.out | apply below_alloc | apply pw_below_drewN | apply below_drew1 | refine below_set ?_ (IsS115.ge HI0.out) | refine below_set ?_ GE143.out) | exact HB.out)) hb); have n4_ := Aside0.mk (hbox); have n5_ := Aside0.mk ((by rw [hg]; exact (keep_size (w := w) (g := g) (row := none) (by repeat (first | (with_reducible first | exact HK.out | apply KeepBut.set_ | apply keep_drewN | apply keep_drew | apply keep_alloc | refine keep_far ?_ GW143.out _) | exact HK.out))) : w.heap.size ≤ gb155)); have n6_ := Aside0.mk ((Nat.le_trans HW0.out (by rw [hg]; exact (keep_size (w := w) (g := g) (row := none) (by repeat (first | (with_reducible first | exact HK.out | apply KeepBut.set_ | apply keep_drewN | apply keep_drew | apply keep_alloc | refine keep_far ?_ GW143.out _) | exact HK.out))) : w.heap.size ≤ gb155) : w0.heap.size ≤ gb155)); have n7_ := Aside0.mk ((by rw [hg]; exact Nat.ne_of_lt (blk_lt (g := gb143) (o := .cells #[.int .i64 0, .int .i64 0, .int .i64 0, .int .i64 0, .int .i64 0, .int .i64 0, .int .i64 0, .bool false, .int .i64 0, .int .i64 0] 50 (0, 0)) (by (with_reducible repeat (first | refine blk_drewN ?_ _ | refine blk_drew ?_ | refine blk_alloc ?_ _)); exact BK143.out)) : gb143 ≠ gb155)); have n8_ := Aside0.mk ((by rw [hg]; exact Nat.ne_of_gt (blk_lt (g := gb143) (o := .cells #[.int .i64 0, .int .i64 0, .int .i64 0, .int .i64 0, .int .i64 0, .int .i64 0, .int .i64 0, .bool false, .int .i64 0, .int .i64 0] 50 (0, 0)) (by (with_reducible repeat (first | refine blk_drewN ?_ _ | refine blk_drew ?_ | refine blk_alloc ?_ _)); exact BK143.out)) : gb155 ≠ gb143)); have n9_ := Aside0.mk ((by rw [hg]; exact Nat.ne_of_lt (Nat.lt_of_lt_of_le HG0.out (keep_size (w := w) (g := g) (row := none) (by repeat (first | (with_reducible first | exact HK.out | apply KeepBut.set_ | apply keep_drewN | apply keep_drew | apply keep_alloc | refine keep_far ?_ GW143.out _) | exact HK.out)))) : g ≠ gb155)); have n10_ := Aside0.mk ((by rw [hg]; exact Nat.ne_of_gt (Nat.lt_of_lt_of_le HG0.out (keep_size (w := w) (g := g) (row := none) (by repeat (first | (with_reducible first | exact HK.out | apply KeepBut.set_ | apply keep_drewN | apply keep_drew | apply keep_alloc | refine keep_far ?_ GW143.out _) | exact HK.out)))) : gb155 ≠ g)); clear HI0; clear BK143; clear HK; clear HB; have HI0 := n0_; have BK143 := n1_; have HK := n2_; have HB := n3_; have BK155 := n4_; have GW155 := n5_; have GE155 := n6_; have NB143_155 := n7_; have NB155_143 := n8_; have NB0_155 := n9_; have NB155_0 := n10_; clear n0_ n1_ n2_ n3_ n4_ n5_ n6_ n7_ n8_ n9_ n10_; clear hb hbox hg; have hnb9 := NB155_143.out; have hnc9 := NB143_155.out; have hnb10 := NB155_0.out; have hnc10 := NB0_155.out; have hcz11_0 : w8.cell? ⟨gb155, 0, none⟩ = some (.int .i64 0) := (blk_cell BK155.out 0).trans rfl; have hcz11_1 : w8.cell? ⟨gb155, 1, none⟩ = some (.int .i64 0) := (blk_cell BK155.out 1).trans rfl; have hcz11_2 : w8.cell? ⟨gb155, 2, none⟩ = some (.int .i64 0) := (blk_cell BK155.out 2).trans rfl; have hcz11_3 : w8.cell? ⟨gb155, 3, none⟩ = some (.int .i64 0) := (blk_cell BK155.out 3).trans rfl; have hcz11_4 : w8.cell? ⟨gb155, 4, none⟩ = some (.int .i64 0) := (blk_cell BK155.out 4).trans rfl; have hcz11_5 : w8.cell? ⟨gb155, 5, none⟩ = some (.int .i64 0) := (blk_cell BK155.out 5).trans rfl; have hcz11_6 : w8.cell? ⟨gb155, 6, none⟩ = some (.int .i64 0) := (blk_cell BK155.out 6).trans rfl; have hcz11_7 : w8.cell? ⟨gb155, 7, none⟩ = some (.bool false) := (blk_cell BK155.out 7).trans rfl; have hcz11_8 : w8.cell? ⟨gb155, 8, none⟩ = some (.int .i64 0) := (blk_cell BK155.out 8).trans rfl; have hcz11_9 : w8.cell? ⟨gb155, 9, none⟩ = some (.int .i64 0) := (blk_cell BK155.out 9).trans rfl; have hfz11_0 := blk_frozen BK155.out 0; have hfz11_1 := blk_frozen BK155.out 1; have hfz11_2 := blk_frozen BK155.out 2; have hfz11_3 := blk_frozen BK155.out 3; have hfz11_4 := blk_frozen BK155.out 4; have hfz11_5 := blk_frozen BK155.out 5; have hfz11_6 := blk_frozen BK155.out 6; have hfz11_7 := blk_frozen BK155.out 7; have hfz11_8 := blk_frozen BK155.out 8; have hfz11_9 := blk_frozen BK155.out 9) | ((with_reducible refine gate_callee (f := 74) rfl ?_); refine goesL_ (some 11) rfl rfl Try.func74 (by kernel_rfl) rfl #[.pointer (some ⟨g, 0, none⟩), .int .i64 a1] rfl (by (try simp only [List.map_toArray, List.map_cons, List.map_nil]); first | done | rfl | (simp only [List.length_drop, List.length_take]; rfl)) ?_; (with_reducible refine (spec_l20Rd_pick.calls k g s0_0 t154 a1 t156 t157 w0 _ ?side1 ?side2 A4.out).mono ?_); (case side1 => repeat (first | (with_reducible first | exact HI0.out | apply IsS115.alloc | apply IsS115.drewN | apply IsS115.drew | apply IsS115.set_1 | refine IsS115.far ?_ NB0_143.out _ | refine IsS115.far ?_ NB0_155.out _) | exact HI0.out)); (case side2 => repeat (first | (with_reducible first | exact HB.out | apply below_alloc | apply pw_below_drewN | apply below_drew1 | refine below_set ?_ (IsS115.ge HI0.out) | refine below_set ?_ GE143.out | refine below_set ?_ GE155.out) | exact HB.out)); rintro e w12 ⟨rfl, hi, hb, hk⟩; refine ⟨_, rfl, ?_⟩; have n0_ := Aside0.mk (KeepBut.blk hk (g' := gb143) (o := .cells #[.int .i64 0, .int .i64 0, .int .i64 0, .int .i64 0, .int .i64 0, .int .i64 0, .int .i64 0, .bool false, .int .i64 0, .int .i64 0] 50 (0, 0)) (by (with_reducible repeat (first | refine blk_drewN ?_ _ | refine blk_drew ?_ | refine blk_alloc ?_ _)); refine blk_far ?_ NB143_155.out _; (with_reducible repeat (first | refine blk_drewN ?_ _ | refine blk_drew ?_ | refine blk_alloc ?_ _)); refine blk_far ?_ NB143_155.out _; (with_reducible repeat (first | refine blk_drewN ?_ _ | refine blk_drew ?_ | refine blk_alloc ?_ _)); refine blk_far ?_ NB143_155.out _; (with_reducible repeat (first | refine blk_drewN ?_ _ | refine blk_drew ?_ | refine blk_alloc ?_ _)); refine blk_far ?_ NB143_155.out _; (with_reducible repeat (first | refine blk_drewN ?_ _ | refine blk_drew ?_ | refine blk_alloc ?_ _)); refine blk_far ?_ NB143_155.out _; (with_reducible repeat (first | refine blk_drewN ?_ _ | refine blk_drew ?_ | refine blk_alloc ?_ _)); refine blk_far ?_ NB143_155.out _; (with_reducible repeat (first | refine blk_drewN ?_ _ | refine blk_drew ?_ | refine blk_alloc ?_ _)); refine blk_far ?_ NB143_155.out _; (with_reducible repeat (first | refine blk_drewN ?_ _ | refine blk_drew ?_ | refine blk_alloc ?_ _)); refine blk_far ?_ NB143_155.out _; (with_reducible repeat (first | refine blk_drewN ?_ _ | refine blk_drew ?_ | refine blk_alloc ?_ _)); refine blk_far ?_ NB143_155.out _; (with_reducible repeat (first | refine blk_drewN ?_ _ | refine blk_drew ?_ | refine blk_alloc ?_ _)); refine blk_far ?_ NB143_155.out _; (with_reducible repeat (first | refine blk_drewN ?_ _ | refine blk_drew ?_ | refine blk_alloc ?_ _)); exact BK143.out) NB143_0.out (by simp)); have n1_ := Aside0.mk (KeepBut.blk hk (g' := gb155) (o := .cells #[.int .i64 t144, .int .i64 t145, .int .i64 t146, .int .i64 t147, .int .i64 t148, .int .i64 t149, .int .i64 t150, .bool t151, .int .i64 t152, .int .i64 t153] 50 (0, 0)) (by (with_reducible repeat (first | refine blk_drewN ?_ _ | refine blk_drew ?_ | refine blk_alloc ?_ _)); refine blk_put (cs := #[.int .i64 t144, .int .i64 t145, .int .i64 t146, .int .i64 t147, .int .i64 t148, .int .i64 t149, .int .i64 t150, .bool t151, .int .i64 t152, .int .i64 0]) ?_ 9 _ rfl; (with_reducible repeat (first | refine blk_drewN ?_ _ | refine blk_drew ?_ | refine blk_alloc ?_ _)); refine blk_put (cs := #[.int .i64 t144, .int .i64 t145, .int .i64 t146, .int .i64 t147, .int .i64 t148, .int .i64 t149, .int .i64 t150, .bool t151, .int .i64 0, .int .i64 0]) ?_ 8 _ rfl; (with_reducible repeat (first | refine blk_drewN ?_ _ | refine blk_drew ?_ | refine blk_alloc ?_ _)); refine blk_put (cs := #[.int .i64 t144, .int .i64 t145, .int .i64 t146, .int .i64 t147, .int .i64 t148, .int .i64 t149, .int .i64 t150, .bool false, .int .i64 0, .int .i64 0]) ?_ 7 _ rfl; (with_reducible repeat (first | refine blk_drewN ?_ _ | refine blk_drew ?_ | refine blk_alloc ?_ _)); refine blk_put (cs := #[.int .i64 t144, .int .i64 t145, .int .i64 t146, .int .i64 t147, .int .i64 t148, .int .i64 t149, .int .i64 0, .bool false, .int .i64 0, .int .i64 0]) ?_ 6 _ rfl; (with_reducible repeat (first | refine blk_drewN ?_ _ | refine blk_drew ?_ | refine blk_alloc ?_ _)); refine blk_put (cs := #[.int .i64 t144, .int .i64 t145, .int .i64 t146, .int .i64 t147, .int .i64 t148, .int .i64 0, .int .i64 0, .bool false, .int .i64 0, .int .i64 0]) ?_ 5 _ rfl; (with_reducible repeat (first | refine blk_drewN ?_ _ | refine blk_drew ?_ | refine blk_alloc ?_ _)); refine blk_put (cs := #[.int .i64 t144, .int .i64 t145, .int .i64 t146, .int .i64 t147, .int .i64 0, .int .i64 0, .int .i64 0, .bool false, .int .i64 0, .int .i64 0]) ?_ 4 _ rfl; (with_reducible repeat (first | refine blk_drewN ?_ _ | refine blk_drew ?_ | refine blk_alloc ?_ _)); refine blk_put (cs := #[.int .i64 t144, .int .i64 t145, .int .i64 t146, .int .i64 0, .int .i64 0, .int .i64 0, .int .i64 0, .bool false, .int .i64 0, .int .i64 0]) ?_ 3 _ rfl; (with_reducible repeat (first | refine blk_drewN ?_ _ | refine blk_drew ?_ | refine blk_alloc ?_ _)); refine blk_put (cs := #[.int .i64 t144, .int .i64 t145, .int .i64 0, .int .i64 0, .int .i64 0, .int .i64 0, .int .i64 0, .bool false, .int .i64 0, .int .i64 0]) ?_ 2 _ rfl; (with_reducible repeat (first | refine blk_drewN ?_ _ | refine blk_drew ?_ | refine blk_alloc ?_ _)); refine blk_put (cs := #[.int .i64 t144, .int .i64 0, .int .i64 0, .int .i64 0, .int .i64 0, .int .i64 0, .int .i64 0, .bool false, .int .i64 0, .int .i64 0]) ?_ 1 _ rfl; (with_reducible repeat (first | refine blk_drewN ?_ _ | refine blk_drew ?_ | refine blk_alloc ?_ _)); refine blk_put (cs := #[.int .i64 0, .int .i64 0, .int .i64 0, .int .i64 0, .int .i64 0, .int .i64 0, .int .i64 0, .bool false, .int .i64 0, .int .i64 0]) ?_ 0 _ rfl; (with_reducible repeat (first | refine blk_drewN ?_ _ | refine blk_drew ?_ | refine blk_alloc ?_ _)); exact BK155.out) NB155_0.out (by simp)); have n2_ := Aside0.mk (KeepBut.trans (by repeat (first | (with_reducible first | exact HK.out | apply KeepBut.set_ | apply keep_drewN | apply keep_drew | apply keep_alloc | refine keep_far ?_ GW143.out _ | refine keep_far ?_ GW155.out _) | exact HK.out)) hk (.inl rfl)); have n3_ := Aside0.mk (hb); have n4_ := Aside0.mk (hi); clear BK143; clear BK155; clear HK; clear HB; clear HI0; have BK143 := n0_; have BK155 := n1_; have HK := n2_; have HB := n3_; have HI0 := n4_; clear n0_ n1_ n2_ n3_ n4_; (try clear hb); (try clear hb2); (try clear hk); (try clear hi); have hcz13_0 : w12.cell? ⟨gb155, 0, none⟩ = some (.int .i64 t144) := (blk_cell BK155.out 0).trans rfl; have hcz13_1 : w12.cell? ⟨gb155, 1, none⟩ = some (.int .i64 t145) := (blk_cell BK155.out 1).trans rfl; have hcz13_2 : w12.cell? ⟨gb155, 2, none⟩ = some (.int .i64 t146) := (blk_cell BK155.out 2).trans rfl; have hcz13_3 : w12.cell? ⟨gb155, 3, none⟩ = some (.int .i64 t147) := (blk_cell BK155.out 3).trans rfl; have hcz13_4 : w12.cell? ⟨gb155, 4, none⟩ = some (.int .i64 t148) := (blk_cell BK155.out 4).trans rfl; have hcz13_5 : w12.cell? ⟨gb155, 5, none⟩ = some (.int .i64 t149) := (blk_cell BK155.out 5).trans rfl; have hcz13_6 : w12.cell? ⟨gb155, 6, none⟩ = some (.int .i64 t150) := (blk_cell BK155.out 6).trans rfl; have hcz13_7 : w12.cell? ⟨gb155, 7, none⟩ = some (.bool t151) := (blk_cell BK155.out 7).trans rfl; have hcz13_8 : w12.cell? ⟨gb155, 8, none⟩ = some (.int .i64 t152) := (blk_cell BK155.out 8).trans rfl; have hcz13_9 : w12.cell? ⟨gb155, 9, none⟩ = some (.int .i64 t153) := (blk_cell BK155.out 9).trans rfl; have hfz13_0 := blk_frozen BK155.out 0; have hfz13_1 := blk_frozen BK155.out 1; have hfz13_2 := blk_frozen BK155.out 2; have hfz13_3 := blk_frozen BK155.out 3; have hfz13_4 := blk_frozen BK155.out 4; have hfz13_5 := blk_frozen BK155.out 5; have hfz13_6 := blk_frozen BK155.out 6; have hfz13_7 := blk_frozen BK155.out 7; have hfz13_8 := blk_frozen BK155.out 8; have hfz13_9 := blk_frozen BK155.out 9; have hnb14 := NB143_0.out; have hnc14 := NB0_143.out; have hcz15_0 : w12.cell? ⟨gb143, 0, none⟩ = some (.int .i64 0) := (blk_cell BK143.out 0).trans rfl; have hcz15_1 : w12.cell? ⟨gb143, 1, none⟩ = some (.int .i64 0) := (blk_cell BK143.out 1).trans rfl; have hcz15_2 : w12.cell? ⟨gb143, 2, none⟩ = some (.int .i64 0) := (blk_cell BK143.out 2).trans rfl; have hcz15_3 : w12.cell? ⟨gb143, 3, none⟩ = some (.int .i64 0) := (blk_cell BK143.out 3).trans rfl; have hcz15_4 : w12.cell? ⟨gb143, 4, none⟩ = some (.int .i64 0) := (blk_cell BK143.out 4).trans rfl; have hcz15_5 : w12.cell? ⟨gb143, 5, none⟩ = some (.int .i64 0) := (blk_cell BK143.out 5).trans rfl; have hcz15_6 : w12.cell? ⟨gb143, 6, none⟩ = some (.int .i64 0) := (blk_cell BK143.out 6).trans rfl; have hcz15_7 : w12.cell? ⟨gb143, 7, none⟩ = some (.bool false) := (blk_cell BK143.out 7).trans rfl; have hcz15_8 : w12.cell? ⟨gb143, 8, none⟩ = some (.int .i64 0) := (blk_cell BK143.out 8).trans rfl; have hcz15_9 : w12.cell? ⟨gb143, 9, none⟩ = some (.int .i64 0) := (blk_cell BK143.out 9).trans rfl; have hfz15_0 := blk_frozen BK143.out 0; have hfz15_1 := blk_frozen BK143.out 1; have hfz15_2 := blk_frozen BK143.out 2; have hfz15_3 := blk_frozen BK143.out 3; have hfz15_4 := blk_frozen BK143.out 4; have hfz15_5 := blk_frozen BK143.out 5; have hfz15_6 := blk_frozen BK143.out 6; have hfz15_7 := blk_frozen BK143.out 7; have hfz15_8 := blk_frozen BK143.out 8; have hfz15_9 := blk_frozen BK143.out 9))
  refine bodyPost_ret (results_cell_row rfl _ _ gb143 50 #[.int .i64 t144, .int .i64 t145, .int .i64 t146, .int .i64 t147, .int .i64 t148, .int .i64 t149, .int .i64 t150, .bool t151, .int .i64 t152, .int .i64 t153] (0, 0) _ rfl (by (with_reducible repeat (first | refine blk_drewN ?_ _ | refine blk_drew ?_ | refine blk_alloc ?_ _)); refine blk_put (cs := #[.int .i64 t144, .int .i64 t145, .int .i64 t146, .int .i64 t147, .int .i64 t148, .int .i64 t149, .int .i64 t150, .bool t151, .int .i64 t152, .int .i64 0]) ?_ 9 _ rfl; (with_reducible repeat (first | refine blk_drewN ?_ _ | refine blk_drew ?_ | refine blk_alloc ?_ _)); refine blk_put (cs := #[.int .i64 t144, .int .i64 t145, .int .i64 t146, .int .i64 t147, .int .i64 t148, .int .i64 t149, .int .i64 t150, .bool t151, .int .i64 0, .int .i64 0]) ?_ 8 _ rfl; (with_reducible repeat (first | refine blk_drewN ?_ _ | refine blk_drew ?_ | refine blk_alloc ?_ _)); refine blk_put (cs := #[.int .i64 t144, .int .i64 t145, .int .i64 t146, .int .i64 t147, .int .i64 t148, .int .i64 t149, .int .i64 t150, .bool false, .int .i64 0, .int .i64 0]) ?_ 7 _ rfl; (with_reducible repeat (first | refine blk_drewN ?_ _ | refine blk_drew ?_ | refine blk_alloc ?_ _)); refine blk_put (cs := #[.int .i64 t144, .int .i64 t145, .int .i64 t146, .int .i64 t147, .int .i64 t148, .int .i64 t149, .int .i64 0, .bool false, .int .i64 0, .int .i64 0]) ?_ 6 _ rfl; (with_reducible repeat (first | refine blk_drewN ?_ _ | refine blk_drew ?_ | refine blk_alloc ?_ _)); refine blk_put (cs := #[.int .i64 t144, .int .i64 t145, .int .i64 t146, .int .i64 t147, .int .i64 t148, .int .i64 0, .int .i64 0, .bool false, .int .i64 0, .int .i64 0]) ?_ 5 _ rfl; (with_reducible repeat (first | refine blk_drewN ?_ _ | refine blk_drew ?_ | refine blk_alloc ?_ _)); refine blk_put (cs := #[.int .i64 t144, .int .i64 t145, .int .i64 t146, .int .i64 t147, .int .i64 0, .int .i64 0, .int .i64 0, .bool false, .int .i64 0, .int .i64 0]) ?_ 4 _ rfl; (with_reducible repeat (first | refine blk_drewN ?_ _ | refine blk_drew ?_ | refine blk_alloc ?_ _)); refine blk_put (cs := #[.int .i64 t144, .int .i64 t145, .int .i64 t146, .int .i64 0, .int .i64 0, .int .i64 0, .int .i64 0, .bool false, .int .i64 0, .int .i64 0]) ?_ 3 _ rfl; (with_reducible repeat (first | refine blk_drewN ?_ _ | refine blk_drew ?_ | refine blk_alloc ?_ _)); refine blk_put (cs := #[.int .i64 t144, .int .i64 t145, .int .i64 0, .int .i64 0, .int .i64 0, .int .i64 0, .int .i64 0, .bool false, .int .i64 0, .int .i64 0]) ?_ 2 _ rfl; (with_reducible repeat (first | refine blk_drewN ?_ _ | refine blk_drew ?_ | refine blk_alloc ?_ _)); refine blk_put (cs := #[.int .i64 t144, .int .i64 0, .int .i64 0, .int .i64 0, .int .i64 0, .int .i64 0, .int .i64 0, .bool false, .int .i64 0, .int .i64 0]) ?_ 1 _ rfl; (with_reducible repeat (first | refine blk_drewN ?_ _ | refine blk_drew ?_ | refine blk_alloc ?_ _)); refine blk_put (cs := #[.int .i64 0, .int .i64 0, .int .i64 0, .int .i64 0, .int .i64 0, .int .i64 0, .int .i64 0, .bool false, .int .i64 0, .int .i64 0]) ?_ 0 _ rfl; (with_reducible repeat (first | refine blk_drewN ?_ _ | refine blk_drew ?_ | refine blk_alloc ?_ _)); exact BK143.out) Try.underlying50 rfl (by kernel_rfl)) rfl ?_
  exact ⟨by first | rfl | (simp [errW_none, errW_some] <;> rfl) | (simp [*, errW_none, errW_some] <;> rfl), by repeat (first | (with_reducible first | exact HI0.out | apply IsS115.alloc | apply IsS115.drewN | apply IsS115.drew | apply IsS115.set_1 | refine IsS115.far ?_ NB0_143.out _ | refine IsS115.far ?_ NB0_155.out _) | exact HI0.out), by repeat (first | (with_reducible first | exact HB.out | apply below_alloc | apply pw_below_drewN | apply below_drew1 | refine below_set ?_ (IsS115.ge HI0.out) | refine below_set ?_ GE143.out | refine below_set ?_ GE155.out) | exact HB.out), by repeat (first | (with_reducible first | exact HK.out | apply KeepBut.set_ | apply keep_drewN | apply keep_drew | apply keep_alloc | refine keep_far ?_ GW143.out _ | refine keep_far ?_ GW155.out _) | exact HK.out)⟩
 ·rw [if_neg c5] at H
  have c5b0 : decide (0 < t156) = false := decide_eq_false c5
  clear c5
  obtain ⟨y158, hy158⟩ : ∃ y_ : List Int, y_ = (([(-1), 0, 3, 4, 5, 21, 10, 1] : List Int)) := ⟨_, rfl⟩
  replace H : ((spec_l20Rd_pick.f k s0_0 t157 8).bind fun bt161 => (if 0 ≤ bt161.1 then (if bt161.1 < (y158.length : Int) then ((spec_l20Rd_pick.f k s0_0 bt161.2 9).bind fun bt164 => (if bt164.1 = 0 then (spec_l20AnyJob.j0 k s0_0 bt164.2 (rd y158 bt161.1) t145 t146 t147 t148 t149 t150 t151 t152 t153) else (if bt164.1 = 1 then (spec_l20AnyJob.j0 k s0_0 bt164.2 t144 (rd y158 bt161.1) t146 t147 t148 t149 t150 t151 t152 t153) else (if bt164.1 = 2 then (spec_l20AnyJob.j0 k s0_0 bt164.2 t144 t145 (rd y158 bt161.1) t147 t148 t149 t150 t151 t152 t153) else (if bt164.1 = 3 then (spec_l20AnyJob.j0 k s0_0 bt164.2 t144 t145 t146 (rd y158 bt161.1) t148 t149 t150 t151 t152 t153) else (if bt164.1 = 4 then (spec_l20AnyJob.j0 k s0_0 bt164.2 t144 t145 t146 t147 (rd y158 bt161.1) t149 t150 t151 t152 t153) else (if bt164.1 = 5 then (spec_l20AnyJob.j0 k s0_0 bt164.2 t144 t145 t146 t147 t148 (rd y158 bt161.1) t150 t151 t152 t153) else (if bt164.1 = 6 then (spec_l20AnyJob.j0 k s0_0 bt164.2 t144 t145 t146 t147 t148 t149 (rd y158 bt161.1) t151 t152 t153) else (if bt164.1 = 7 then (spec_l20AnyJob.j0 k s0_0 bt164.2 t144 t145 t146 t147 t148 t149 t150 t151 (wrap64 ((rd y158 bt161.1) * 2)) t153) else (spec_l20AnyJob.j0 k s0_0 bt164.2 t144 t145 t146 t147 t148 t149 t150 t151 t152 (rd y158 bt161.1))))))))))) else (none)) else (none))) = some (r1, r2, r3, r4, r5, r6, r7, r8, r9, r10, r11) := by first | (rw [hy158]; with_reducible exact H) | (have H2_ := (Option.bind_some _ _).symm.trans H; rw [hy158]; with_reducible exact H2_) | (have H2_ := (Option.bind_some _ _).symm.trans H; with_reducible exact H2_) | with_reducible exact H | (rw [hy158]; exact H) | exact H
  have Ny158 := Aside0.mk hy158
  clear hy158
  replace H := Option.bind_eq_some_iff.mp H
  obtain ⟨⟨t161, t162⟩, A160, H⟩ := H
  replace H : (if 0 ≤ t161 then (if t161 < (y158.length : Int) then ((spec_l20Rd_pick.f k s0_0 t162 9).bind fun bt164 => (if bt164.1 = 0 then (spec_l20AnyJob.j0 k s0_0 bt164.2 (rd y158 t161) t145 t146 t147 t148 t149 t150 t151 t152 t153) else (if bt164.1 = 1 then (spec_l20AnyJob.j0 k s0_0 bt164.2 t144 (rd y158 t161) t146 t147 t148 t149 t150 t151 t152 t153) else (if bt164.1 = 2 then (spec_l20AnyJob.j0 k s0_0 bt164.2 t144 t145 (rd y158 t161) t147 t148 t149 t150 t151 t152 t153) else (if bt164.1 = 3 then (spec_l20AnyJob.j0 k s0_0 bt164.2 t144 t145 t146 (rd y158 t161) t148 t149 t150 t151 t152 t153) else (if bt164.1 = 4 then (spec_l20AnyJob.j0 k s0_0 bt164.2 t144 t145 t146 t147 (rd y158 t161) t149 t150 t151 t152 t153) else (if bt164.1 = 5 then (spec_l20AnyJob.j0 k s0_0 bt164.2 t144 t145 t146 t147 t148 (rd y158 t161) t150 t151 t152 t153) else (if bt164.1 = 6 then (spec_l20AnyJob.j0 k s0_0 bt164.2 t144 t145 t146 t147 t148 t149 (rd y158 t161) t151 t152 t153) else (if bt164.1 = 7 then (spec_l20AnyJob.j0 k s0_0 bt164.2 t144 t145 t146 t147 t148 t149 t150 t151 (wrap64 ((rd y158 t161) * 2)) t153) else (spec_l20AnyJob.j0 k s0_0 bt164.2 t144 t145 t146 t147 t148 t149 t150 t151 t152 (rd y158 t161))))))))))) else (none)) else (none)) = some (r1, r2, r3, r4, r5, r6, r7, r8, r9, r10, r11) := H
  have A16 := Aside0.mk A160
  clear A160
  by_cases c17 : 0 ≤ t161
  ·rw [if_pos c17] at H
   have c17b0 : decide (0 ≤ t161) = true := decide_eq_true c17
   clear c17
   by_cases c18 : t161 < (y158.length : Int)
   ·rw [if_pos c18] at H
    have c18b0 : decide (t161 < (y158.length : Int)) = true := decide_eq_true c18
    clear c18
    replace H := Option.bind_eq_some_iff.mp H
    obtain ⟨⟨t164, t165⟩, A190, H⟩ := H
    replace H : (if t164 = 0 then (spec_l20AnyJob.j0 k s0_0 t165 (rd y158 t161) t145 t146 t147 t148 t149 t150 t151 t152 t153) else (if t164 = 1 then (spec_l20AnyJob.j0 k s0_0 t165 t144 (rd y158 t161) t146 t147 t148 t149 t150 t151 t152 t153) else (if t164 = 2 then (spec_l20AnyJob.j0 k s0_0 t165 t144 t145 (rd y158 t161) t147 t148 t149 t150 t151 t152 t153) else (if t164 = 3 then (spec_l20AnyJob.j0 k s0_0 t165 t144 t145 t146 (rd y158 t161) t148 t149 t150 t151 t152 t153) else (if t164 = 4 then (spec_l20AnyJob.j0 k s0_0 t165 t144 t145 t146 t147 (rd y158 t161) t149 t150 t151 t152 t153) else (if t164 = 5 then (spec_l20AnyJob.j0 k s0_0 t165 t144 t145 t146 t147 t148 (rd y158 t161) t150 t151 t152 t153) else (if t164 = 6 then (spec_l20AnyJob.j0 k s0_0 t165 t144 t145 t146 t147 t148 t149 (rd y158 t161) t151 t152 t153) else (if t164 = 7 then (spec_l20AnyJob.j0 k s0_0 t165 t144 t145 t146 t147 t148 t149 t150 t151 (wrap64 ((rd y158 t161) * 2)) t153) else (spec_l20AnyJob.j0 k s0_0 t165 t144 t145 t146 t147 t148 t149 t150 t151 t152 (rd y158 t161)))))))))) = some (r1, r2, r3, r4, r5, r6, r7, r8, r9, r10, r11) := H
    have A19 := Aside0.mk A190
    clear A190
    have HC20 := Aside0.mk H
    clear H
    go_enter Try.func73, Try.ntmps73
    go_upto_block 0 with (first | ((with_reducible refine gate_dst (N := 4) rfl ?_); refine box_event ?hg (N := 4) ?hd (cs := #[.int .i64 0, .int .i64 0, .int .i64 0, .int .i64 0, .int .i64 0, .int .i64 0, .int .i64 0, .bool false, .int .i64 0, .int .i64 0]) (t := 50) ?hr ?_; (case hd => rfl); (case hg => rfl); (case hr => first | (go_simp; done) | (go_simp; rfl)); intro gb143 hg w21 hbox hb; have n0_ := Aside0.mk (IsS115.below (by repeat (first | (with_reducible first | exact HI0.out | apply IsS115.alloc | apply IsS115.drewN | apply IsS115.drew | apply IsS115.set_1) | exact HI0.out)) hb); have n1_ := Aside0.mk (KeepBut.trans (by repeat (first | (with_reducible first | exact HK.out | apply KeepBut.set_ | apply keep_drewN | apply keep_drew | apply keep_alloc) | exact HK.out)) (KeepBut.of_below hb g none) (.inl rfl)); have n2_ := Aside0.mk (below_step (by repeat (first | (with_reducible first | exact HB.out | apply below_alloc | apply pw_below_drewN | apply below_drew1 | refine below_set ?_ (IsS115.ge HI0.out)) | exact HB.out)) hb); have n3_ := Aside0.mk (hbox); have n4_ := Aside0.mk ((by rw [hg]; exact (keep_size (w := w) (g := g) (row := none) (by repeat (first | (with_reducible first | exact HK.out | apply KeepBut.set_ | apply keep_drewN | apply keep_drew | apply keep_alloc) | exact HK.out))) : w.heap.size ≤ gb143)); have n5_ := Aside0.mk ((Nat.le_trans HW0.out (by rw [hg]; exact (keep_size (w := w) (g := g) (row := none) (by repeat (first | (with_reducible first | exact HK.out | apply KeepBut.set_ | apply keep_drewN | apply keep_drew | apply keep_alloc) | exact HK.out))) : w.heap.size ≤ gb143) : w0.heap.size ≤ gb143)); have n6_ := Aside0.mk ((by rw [hg]; exact Nat.ne_of_lt (Nat.lt_of_lt_of_le HG0.out (keep_size (w := w) (g := g) (row := none) (by repeat (first | (with_reducible first | exact HK.out | apply KeepBut.set_ | apply keep_drewN | apply keep_drew | apply keep_alloc) | exact HK.out)))) : g ≠ gb143)); have n7_ := Aside0.mk ((by rw [hg]; exact Nat.ne_of_gt (Nat.lt_of_lt_of_le HG0.out (keep_size (w := w) (g := g) (row := none) (by repeat (first | (with_reducible first | exact HK.out | apply KeepBut.set_ | apply keep_drewN | apply keep_drew | apply keep_alloc) | exact HK.out)))) : gb143 ≠ g)); clear HI0; clear HK; clear HB; have HI0 := n0_; have HK := n1_; have HB := n2_; have BK143 := n3_; have GW143 := n4_; have GE143 := n5_; have NB0_143 := n6_; have NB143_0 := n7_; clear n0_ n1_ n2_ n3_ n4_ n5_ n6_ n7_; clear hb hbox hg) | ((with_reducible refine gate_callee (f := 88) rfl ?_); refine goesL_ (some 8) rfl rfl Try.func88 (by kernel_rfl) rfl #[.pointer (some ⟨g, 0, none⟩)] rfl (by (try simp only [List.map_toArray, List.map_cons, List.map_nil]); first | done | rfl | (simp only [List.length_drop, List.length_take]; rfl)) ?_; (with_reducible refine (spec_l20Job.calls k g s0_0 s0_1 t144 t145 t146 t147 t148 t149 t150 t151 t152 t153 t154 w0 _ ?side1 ?side2 A3.out).mono ?_); (case side1 => repeat (first | (with_reducible first | exact HI0.out | apply IsS115.alloc | apply IsS115.drewN | apply IsS115.drew | apply IsS115.set_1 | refine IsS115.far ?_ NB0_143.out _) | exact HI0.out)); (case side2 => repeat (first | (with_reducible first | exact HB.out | apply below_alloc | apply pw_below_drewN | apply below_drew1 | refine below_set ?_ (IsS115.ge HI0.out) | refine below_set ?_ GE143.out) | exact HB.out)); rintro e w22 ⟨rfl, hi, hb, hk⟩; refine ⟨_, rfl, ?_⟩; have n0_ := Aside0.mk (KeepBut.blk hk (g' := gb143) (o := .cells #[.int .i64 0, .int .i64 0, .int .i64 0, .int .i64 0, .int .i64 0, .int .i64 0, .int .i64 0, .bool false, .int .i64 0, .int .i64 0] 50 (0, 0)) (by (with_reducible repeat (first | refine blk_drewN ?_ _ | refine blk_drew ?_ | refine blk_alloc ?_ _)); exact BK143.out) NB143_0.out (by simp)); have n1_ := Aside0.mk (KeepBut.trans (by repeat (first | (with_reducible first | exact HK.out | apply KeepBut.set_ | apply keep_drewN | apply keep_drew | apply keep_alloc | refine keep_far ?_ GW143.out _) | exact HK.out)) hk (.inl rfl)); have n2_ := Aside0.mk (hb); have n3_ := Aside0.mk (hi); clear BK143; clear HK; clear HB; clear HI0; have BK143 := n0_; have HK := n1_; have HB := n2_; have HI0 := n3_; clear n0_ n1_ n2_ n3_; (try clear hb); (try clear hb2); (try clear hk); (try clear hi)) | ((with_reducible refine gate_dst (N := 5) rfl ?_); refine box_event ?hg (N := 5) ?hd (cs := #[.int .i64 0, .int .i64 0, .int .i64 0, .int .i64 0, .int .i64 0, .int .i64 0, .int .i64 0, .bool false, .int .i64 0, .int .i64 0]) (t := 50) ?hr ?_; (case hd => rfl); (case hg => rfl); (case hr => first | (go_simp; done) | (go_simp; rfl)); intro gb155 hg w23 hbox hb; have n0_ := Aside0.mk (IsS115.below (by repeat (first | (with_reducible first | exact HI0.out | apply IsS115.alloc | apply IsS115.drewN | apply IsS115.drew | apply IsS115.set_1 | refine IsS115.far ?_ NB0_143.out _) | exact HI0.out)) hb); have n1_ := Aside0.mk (blk_below (g := gb143) (o := .cells #[.int .i64 0, .int .i64 0, .int .i64 0, .int .i64 0, .int .i64 0, .int .i64 0, .int .i64 0, .bool false, .int .i64 0, .int .i64 0] 50 (0, 0)) (by (with_reducible repeat (first | refine blk_drewN ?_ _ | refine blk_drew ?_ | refine blk_alloc ?_ _)); exact BK143.out) hb); have n2_ := Aside0.mk (KeepBut.trans (by repeat (first | (with_reducible first | exact HK.out | apply KeepBut.set_ | apply keep_drewN | apply keep_drew | apply keep_alloc | refine keep_far ?_ GW143.out _) | exact HK.out)) (KeepBut.of_below hb g none) (.inl rfl)); have n3_ := Aside0.mk (below_step (by repeat (first | (with_reducible first | exact HB.out | apply below_alloc | apply pw_below_drewN | apply below_drew1 | refine below_set ?_ (IsS115.ge HI0.out) | refine below_set ?_ GE143.out) | exact HB.out)) hb); have n4_ := Aside0.mk (hbox); have n5_ := Aside0.mk ((by rw [hg]; exact (keep_size (w := w) (g := g) (row := none) (by repeat (first | (with_reducible first | exact HK.out | apply KeepBut.set_ | apply keep_drewN | apply keep_drew | apply keep_alloc | refine keep_far ?_ GW143.out _) | exact HK.out))) : w.heap.size ≤ gb155)); have n6_ := Aside0.mk ((Nat.le_trans HW0.out (by rw [hg]; exact (keep_size (w := w) (g := g) (row := none) (by repeat (first | (with_reducible first | exact HK.out | apply KeepBut.set_ | apply keep_drewN | apply keep_drew | apply keep_alloc | refine keep_far ?_ GW143.out _) | exact HK.out))) : w.heap.size ≤ gb155) : w0.heap.size ≤ gb155)); have n7_ := Aside0.mk ((by rw [hg]; exact Nat.ne_of_lt (blk_lt (g := gb143) (o := .cells #[.int .i64 0, .int .i64 0, .int .i64 0, .int .i64 0, .int .i64 0, .int .i64 0, .int .i64 0, .bool false, .int .i64 0, .int .i64 0] 50 (0, 0)) (by (with_reducible repeat (first | refine blk_drewN ?_ _ | refine blk_drew ?_ | refine blk_alloc ?_ _)); exact BK143.out)) : gb143 ≠ gb155)); have n8_ := Aside0.mk ((by rw [hg]; exact Nat.ne_of_gt (blk_lt (g := gb143) (o := .cells #[.int .i64 0, .int .i64 0, .int .i64 0, .int .i64 0, .int .i64 0, .int .i64 0, .int .i64 0, .bool false, .int .i64 0, .int .i64 0] 50 (0, 0)) (by (with_reducible repeat (first | refine blk_drewN ?_ _ | refine blk_drew ?_ | refine blk_alloc ?_ _)); exact BK143.out)) : gb155 ≠ gb143)); have n9_ := Aside0.mk ((by rw [hg]; exact Nat.ne_of_lt (Nat.lt_of_lt_of_le HG0.out (keep_size (w := w) (g := g) (row := none) (by repeat (first | (with_reducible first | exact HK.out | apply KeepBut.set_ | apply keep_drewN | apply keep_drew | apply keep_alloc | refine keep_far ?_ GW143.out _) | exact HK.out)))) : g ≠ gb155)); have n10_ := Aside0.mk ((by rw [hg]; exact Nat.ne_of_gt (Nat.lt_of_lt_of_le HG0.out (keep_size (w := w) (g := g) (row := none) (by repeat (first | (with_reducible first | exact HK.out | apply KeepBut.set_ | apply keep_drewN | apply keep_drew | apply keep_alloc | refine keep_far ?_ GW143.out _) | exact HK.out)))) : gb155 ≠ g)); clear HI0; clear BK143; clear HK; clear HB; have HI0 := n0_; have BK143 := n1_; have HK := n2_; have HB := n3_; have BK155 := n4_; have GW155 := n5_; have GE155 := n6_; have NB143_155 := n7_; have NB155_143 := n8_; have NB0_155 := n9_; have NB155_0 := n10_; clear n0_ n1_ n2_ n3_ n4_ n5_ n6_ n7_ n8_ n9_ n10_; clear hb hbox hg; have hnb24 := NB155_143.out; have hnc24 := NB143_155.out; have hnb25 := NB155_0.out; have hnc25 := NB0_155.out; have hcz26_0 : w23.cell? ⟨gb155, 0, none⟩ = some (.int .i64 0) := (blk_cell BK155.out 0).trans rfl; have hcz26_1 : w23.cell? ⟨gb155, 1, none⟩ = some (.int .i64 0) := (blk_cell BK155.out 1).trans rfl; have hcz26_2 : w23.cell? ⟨gb155, 2, none⟩ = some (.int .i64 0) := (blk_cell BK155.out 2).trans rfl; have hcz26_3 : w23.cell? ⟨gb155, 3, none⟩ = some (.int .i64 0) := (blk_cell BK155.out 3).trans rfl; have hcz26_4 : w23.cell? ⟨gb155, 4, none⟩ = some (.int .i64 0) := (blk_cell BK155.out 4).trans rfl; have hcz26_5 : w23.cell? ⟨gb155, 5, none⟩ = some (.int .i64 0) := (blk_cell BK155.out 5).trans rfl; have hcz26_6 : w23.cell? ⟨gb155, 6, none⟩ = some (.int .i64 0) := (blk_cell BK155.out 6).trans rfl; have hcz26_7 : w23.cell? ⟨gb155, 7, none⟩ = some (.bool false) := (blk_cell BK155.out 7).trans rfl; have hcz26_8 : w23.cell? ⟨gb155, 8, none⟩ = some (.int .i64 0) := (blk_cell BK155.out 8).trans rfl; have hcz26_9 : w23.cell? ⟨gb155, 9, none⟩ = some (.int .i64 0) := (blk_cell BK155.out 9).trans rfl; have hfz26_0 := blk_frozen BK155.out 0; have hfz26_1 := blk_frozen BK155.out 1; have hfz26_2 := blk_frozen BK155.out 2; have hfz26_3 := blk_frozen BK155.out 3; have hfz26_4 := blk_frozen BK155.out 4; have hfz26_5 := blk_frozen BK155.out 5; have hfz26_6 := blk_frozen BK155.out 6; have hfz26_7 := blk_frozen BK155.out 7; have hfz26_8 := blk_frozen BK155.out 8; have hfz26_9 := blk_frozen BK155.out 9) | ((with_reducible refine gate_callee (f := 74) rfl ?_); refine goesL_ (some 11) rfl rfl Try.func74 (by kernel_rfl) rfl #[.pointer (some ⟨g, 0, none⟩), .int .i64 a1] rfl (by (try simp only [List.map_toArray, List.map_cons, List.map_nil]); first | done | rfl | (simp only [List.length_drop, List.length_take]; rfl)) ?_; (with_reducible refine (spec_l20Rd_pick.calls k g s0_0 t154 a1 t156 t157 w0 _ ?side1 ?side2 A4.out).mono ?_); (case side1 => repeat (first | (with_reducible first | exact HI0.out | apply IsS115.alloc | apply IsS115.drewN | apply IsS115.drew | apply IsS115.set_1 | refine IsS115.far ?_ NB0_143.out _ | refine IsS115.far ?_ NB0_155.out _) | exact HI0.out)); (case side2 => repeat (first | (with_reducible first | exact HB.out | apply below_alloc | apply pw_below_drewN | apply below_drew1 | refine below_set ?_ (IsS115.ge HI0.out) | refine below_set ?_ GE143.out | refine below_set ?_ GE155.out) | exact HB.out)); rintro e w27 ⟨rfl, hi, hb, hk⟩; refine ⟨_, rfl, ?_⟩; have n0_ := Aside0.mk (KeepBut.blk hk (g' := gb143) (o := .cells #[.int .i64 0, .int .i64 0, .int .i64 0, .int .i64 0, .int .i64 0, .int .i64 0, .int .i64 0, .bool false, .int .i64 0, .int .i64 0] 50 (0, 0)) (by (with_reducible repeat (first | refine blk_drewN ?_ _ | refine blk_drew ?_ | refine blk_alloc ?_ _)); refine blk_far ?_ NB143_155.out _; (with_reducible repeat (first | refine blk_drewN ?_ _ | refine blk_drew ?_ | refine blk_alloc ?_ _)); refine blk_far ?_ NB143_155.out _; (with_reducible repeat (first | refine blk_drewN ?_ _ | refine blk_drew ?_ | refine blk_alloc ?_ _)); refine blk_far ?_ NB143_155.out _; (with_reducible repeat (first | refine blk_drewN ?_ _ | refine blk_drew ?_ | refine blk_alloc ?_ _)); refine blk_far ?_ NB143_155.out _; (with_reducible repeat (first | refine blk_drewN ?_ _ | refine blk_drew ?_ | refine blk_alloc ?_ _)); refine blk_far ?_ NB143_155.out _; (with_reducible repeat (first | refine blk_drewN ?_ _ | refine blk_drew ?_ | refine blk_alloc ?_ _)); refine blk_far ?_ NB143_155.out _; (with_reducible repeat (first | refine blk_drewN ?_ _ | refine blk_drew ?_ | refine blk_alloc ?_ _)); refine blk_far ?_ NB143_155.out _; (with_reducible repeat (first | refine blk_drewN ?_ _ | refine blk_drew ?_ | refine blk_alloc ?_ _)); refine blk_far ?_ NB143_155.out _; (with_reducible repeat (first | refine blk_drewN ?_ _ | refine blk_drew ?_ | refine blk_alloc ?_ _)); refine blk_far ?_ NB143_155.out _; (with_reducible repeat (first | refine blk_drewN ?_ _ | refine blk_drew ?_ | refine blk_alloc ?_ _)); refine blk_far ?_ NB143_155.out _; (with_reducible repeat (first | refine blk_drewN ?_ _ | refine blk_drew ?_ | refine blk_alloc ?_ _)); exact BK143.out) NB143_0.out (by simp)); have n1_ := Aside0.mk (KeepBut.blk hk (g' := gb155) (o := .cells #[.int .i64 t144, .int .i64 t145, .int .i64 t146, .int .i64 t147, .int .i64 t148, .int .i64 t149, .int .i64 t150, .bool t151, .int .i64 t152, .int .i64 t153] 50 (0, 0)) (by (with_reducible repeat (first | refine blk_drewN ?_ _ | refine blk_drew ?_ | refine blk_alloc ?_ _)); refine blk_put (cs := #[.int .i64 t144, .int .i64 t145, .int .i64 t146, .int .i64 t147, .int .i64 t148, .int .i64 t149, .int .i64 t150, .bool t151, .int .i64 t152, .int .i64 0]) ?_ 9 _ rfl; (with_reducible repeat (first | refine blk_drewN ?_ _ | refine blk_drew ?_ | refine blk_alloc ?_ _)); refine blk_put (cs := #[.int .i64 t144, .int .i64 t145, .int .i64 t146, .int .i64 t147, .int .i64 t148, .int .i64 t149, .int .i64 t150, .bool t151, .int .i64 0, .int .i64 0]) ?_ 8 _ rfl; (with_reducible repeat (first | refine blk_drewN ?_ _ | refine blk_drew ?_ | refine blk_alloc ?_ _)); refine blk_put (cs := #[.int .i64 t144, .int .i64 t145, .int .i64 t146, .int .i64 t147, .int .i64 t148, .int .i64 t149, .int .i64 t150, .bool false, .int .i64 0, .int .i64 0]) ?_ 7 _ rfl; (with_reducible repeat (first | refine blk_drewN ?_ _ | refine blk_drew ?_ | refine blk_alloc ?_ _)); refine blk_put (cs := #[.int .i64 t144, .int .i64 t145, .int .i64 t146, .int .i64 t147, .int .i64 t148, .int .i64 t149, .int .i64 0, .bool false, .int .i64 0, .int .i64 0]) ?_ 6 _ rfl; (with_reducible repeat (first | refine blk_drewN ?_ _ | refine blk_drew ?_ | refine blk_alloc ?_ _)); refine blk_put (cs := #[.int .i64 t144, .int .i64 t145, .int .i64 t146, .int .i64 t147, .int .i64 t148, .int .i64 0, .int .i64 0, .bool false, .int .i64 0, .int .i64 0]) ?_ 5 _ rfl; (with_reducible repeat (first | refine blk_drewN ?_ _ | refine blk_drew ?_ | refine blk_alloc ?_ _)); refine blk_put (cs := #[.int .i64 t144, .int .i64 t145, .int .i64 t146, .int .i64 t147, .int .i64 0, .int .i64 0, .int .i64 0, .bool false, .int .i64 0, .int .i64 0]) ?_ 4 _ rfl; (with_reducible repeat (first | refine blk_drewN ?_ _ | refine blk_drew ?_ | refine blk_alloc ?_ _)); refine blk_put (cs := #[.int .i64 t144, .int .i64 t145, .int .i64 t146, .int .i64 0, .int .i64 0, .int .i64 0, .int .i64 0, .bool false, .int .i64 0, .int .i64 0]) ?_ 3 _ rfl; (with_reducible repeat (first | refine blk_drewN ?_ _ | refine blk_drew ?_ | refine blk_alloc ?_ _)); refine blk_put (cs := #[.int .i64 t144, .int .i64 t145, .int .i64 0, .int .i64 0, .int .i64 0, .int .i64 0, .int .i64 0, .bool false, .int .i64 0, .int .i64 0]) ?_ 2 _ rfl; (with_reducible repeat (first | refine blk_drewN ?_ _ | refine blk_drew ?_ | refine blk_alloc ?_ _)); refine blk_put (cs := #[.int .i64 t144, .int .i64 0, .int .i64 0, .int .i64 0, .int .i64 0, .int .i64 0, .int .i64 0, .bool false, .int .i64 0, .int .i64 0]) ?_ 1 _ rfl; (with_reducible repeat (first | refine blk_drewN ?_ _ | refine blk_drew ?_ | refine blk_alloc ?_ _)); refine blk_put (cs := #[.int .i64 0, .int .i64 0, .int .i64 0, .int .i64 0, .int .i64 0, .int .i64 0, .int .i64 0, .bool false, .int .i64 0, .int .i64 0]) ?_ 0 _ rfl; (with_reducible repeat (first | refine blk_drewN ?_ _ | refine blk_drew ?_ | refine blk_alloc ?_ _)); exact BK155.out) NB155_0.out (by simp)); have n2_ := Aside0.mk (KeepBut.trans (by repeat (first | (with_reducible first | exact HK.out | apply KeepBut.set_ | apply keep_drewN | apply keep_drew | apply keep_alloc | refine keep_far ?_ GW143.out _ | refine keep_far ?_ GW155.out _) | exact HK.out)) hk (.inl rfl)); have n3_ := Aside0.mk (hb); have n4_ := Aside0.mk (hi); clear BK143; clear BK155; clear HK; clear HB; clear HI0; have BK143 := n0_; have BK155 := n1_; have HK := n2_; have HB := n3_; have HI0 := n4_; clear n0_ n1_ n2_ n3_ n4_; (try clear hb); (try clear hb2); (try clear hk); (try clear hi)) | ((with_reducible refine gate_dst (N := 14) rfl ?_); refine Kd.R_lit (Kd.int .i64) _ 3 ?hg (N := 14) ?hd (xs := ([(-1), 0, 3, 4, 5, 21, 10, 1] : List Int)) (inner := [.int .i64 (-1), .int .i64 0, .int .i64 3, .int .i64 4, .int .i64 5, .int .i64 21, .int .i64 10, .int .i64 1]) (ok := fun _ => True) (okp := fun _ => True) ?hr ?hp (fun _ hk => hk) trivial (Below.refl _ _) (Nat.le_refl _) (by simp) ?_; (case hd => rfl); (case hg => rfl); (case hr => first | (go_simp; done) | (go_simp; rfl)); (case hp => exact (Reps.one (show Kd.M (Kd.int .i64) _ _ _ (-1) [.int .i64 (-1)] from rfl) (Reps.one (show Kd.M (Kd.int .i64) _ _ _ 0 [.int .i64 0] from rfl) (Reps.one (show Kd.M (Kd.int .i64) _ _ _ 3 [.int .i64 3] from rfl) (Reps.one (show Kd.M (Kd.int .i64) _ _ _ 4 [.int .i64 4] from rfl) (Reps.one (show Kd.M (Kd.int .i64) _ _ _ 5 [.int .i64 5] from rfl) (Reps.one (show Kd.M (Kd.int .i64) _ _ _ 21 [.int .i64 21] from rfl) (Reps.one (show Kd.M (Kd.int .i64) _ _ _ 10 [.int .i64 10] from rfl) (Reps.one (show Kd.M (Kd.int .i64) _ _ _ 1 [.int .i64 1] from rfl) (Reps.none _ _)))))))))); intro v159 w28 ho29 hb hg_ hnew_; clear hg_ hnew_; (first | rw [← Ny158.out] at ho29 | (simp only [Int.reduceToNat] at ho29; rw [← Ny158.out] at ho29)); have n0_ := Aside0.mk (Kd.R_lower ho29 (keep_size (w := w) (g := g) (row := none) (by repeat (first | (with_reducible first | exact HK.out | apply KeepBut.set_ | apply keep_drewN | apply keep_drew | apply keep_alloc | refine keep_far ?_ GW143.out _ | refine keep_far ?_ GW155.out _) | exact HK.out)))); have n1_ := Aside0.mk (IsS115.below (by repeat (first | (with_reducible first | exact HI0.out | apply IsS115.alloc | apply IsS115.drewN | apply IsS115.drew | apply IsS115.set_1 | refine IsS115.far ?_ NB0_143.out _ | refine IsS115.far ?_ NB0_155.out _) | exact HI0.out)) hb); have n2_ := Aside0.mk (blk_below (g := gb143) (o := .cells #[.int .i64 0, .int .i64 0, .int .i64 0, .int .i64 0, .int .i64 0, .int .i64 0, .int .i64 0, .bool false, .int .i64 0, .int .i64 0] 50 (0, 0)) (by (with_reducible repeat (first | refine blk_drewN ?_ _ | refine blk_drew ?_ | refine blk_alloc ?_ _)); exact BK143.out) hb); have n3_ := Aside0.mk (blk_below (g := gb155) (o := .cells #[.int .i64 t144, .int .i64 t145, .int .i64 t146, .int .i64 t147, .int .i64 t148, .int .i64 t149, .int .i64 t150, .bool t151, .int .i64 t152, .int .i64 t153] 50 (0, 0)) (by (with_reducible repeat (first | refine blk_drewN ?_ _ | refine blk_drew ?_ | refine blk_alloc ?_ _)); exact BK155.out) hb); have n4_ := Aside0.mk (KeepBut.trans (by repeat (first | (with_reducible first | exact HK.out | apply KeepBut.set_ | apply keep_drewN | apply keep_drew | apply keep_alloc | refine keep_far ?_ GW143.out _ | refine keep_far ?_ GW155.out _) | exact HK.out)) (KeepBut.of_below hb g none) (.inl rfl)); have n5_ := Aside0.mk (below_step (by repeat (first | (with_reducible first | exact HB.out | apply below_alloc | apply pw_below_drewN | apply below_drew1 | refine below_set ?_ (IsS115.ge HI0.out) | refine below_set ?_ GE143.out | refine below_set ?_ GE155.out) | exact HB.out)) hb); clear HI0; clear BK143; clear BK155; clear HK; clear HB; have HO160 := n0_; have HI0 := n1_; have BK143 := n2_; have BK155 := n3_; have HK := n4_; have HB := n5_; clear n0_ n1_ n2_ n3_ n4_ n5_; clear hb ho29) | ((with_reducible refine gate_callee (f := 74) rfl ?_); refine goesL_ (some 16) rfl rfl Try.func74 (by kernel_rfl) rfl #[.pointer (some ⟨g, 0, none⟩), .int .i64 8] rfl (by (try simp only [List.map_toArray, List.map_cons, List.map_nil]); first | done | rfl | (simp only [List.length_drop, List.length_take]; rfl)) ?_; (with_reducible refine (spec_l20Rd_pick.calls k g s0_0 t157 8 t161 t162 w0 _ ?side1 ?side2 A16.out).mono ?_); (case side1 => repeat (first | (with_reducible first | exact HI0.out | apply IsS115.alloc | apply IsS115.drewN | apply IsS115.drew | apply IsS115.set_1 | refine IsS115.far ?_ NB0_143.out _ | refine IsS115.far ?_ NB0_155.out _) | exact HI0.out)); (case side2 => repeat (first | (with_reducible first | exact HB.out | apply below_alloc | apply pw_below_drewN | apply below_drew1 | refine below_set ?_ (IsS115.ge HI0.out) | refine below_set ?_ GE143.out | refine below_set ?_ GE155.out) | exact HB.out)); rintro e w30 ⟨rfl, hi, hb, hk⟩; refine ⟨_, rfl, ?_⟩; have n0_ := Aside0.mk (KeepBut.blk hk (g' := gb143) (o := .cells #[.int .i64 0, .int .i64 0, .int .i64 0, .int .i64 0, .int .i64 0, .int .i64 0, .int .i64 0, .bool false, .int .i64 0, .int .i64 0] 50 (0, 0)) (by (with_reducible repeat (first | refine blk_drewN ?_ _ | refine blk_drew ?_ | refine blk_alloc ?_ _)); exact BK143.out) NB143_0.out (by simp)); have n1_ := Aside0.mk (KeepBut.blk hk (g' := gb155) (o := .cells #[.int .i64 t144, .int .i64 t145, .int .i64 t146, .int .i64 t147, .int .i64 t148, .int .i64 t149, .int .i64 t150, .bool t151, .int .i64 t152, .int .i64 t153] 50 (0, 0)) (by (with_reducible repeat (first | refine blk_drewN ?_ _ | refine blk_drew ?_ | refine blk_alloc ?_ _)); exact BK155.out) NB155_0.out (by simp)); have n2_ := Aside0.mk (Kd.R_mono (Kd.R_keep (IsS115.apart (show IsS115 w0 _ g s0_0 t157 from by repeat (first | (with_reducible first | exact HI0.out | apply IsS115.alloc | apply IsS115.drewN | apply IsS115.drew | apply IsS115.set_1 | refine IsS115.far ?_ NB0_143.out _ | refine IsS115.far ?_ NB0_155.out _) | exact HI0.out)) (by (with_reducible repeat (first | apply Kd.R_alloc | apply Kd.R_drewN | apply Kd.R_drew)); exact HO160.out) (by decide)) hk (fun _ h => h.2)) (fun _ h => h.1)); have n3_ := Aside0.mk (KeepBut.trans (by repeat (first | (with_reducible first | exact HK.out | apply KeepBut.set_ | apply keep_drewN | apply keep_drew | apply keep_alloc | refine keep_far ?_ GW143.out _ | refine keep_far ?_ GW155.out _) | exact HK.out)) hk (.inl rfl)); have n4_ := Aside0.mk (hb); have n5_ := Aside0.mk (hi); clear BK143; clear BK155; clear HO160; clear HK; clear HB; clear HI0; have BK143 := n0_; have BK155 := n1_; have HO160 := n2_; have HK := n3_; have HB := n4_; have HI0 := n5_; clear n0_ n1_ n2_ n3_ n4_ n5_; (try clear hb); (try clear hb2); (try clear hk); (try clear hi); obtain ⟨Ao31, co31, eo31⟩ := Kd.R_slice HO160.out; subst eo31; have p163 : 0 ≤ (t161 : Int) := of_decide_eq_true (by first | (with_reducible assumption) | assumption); have q163 : t161 < (y158.length : Int) := of_decide_eq_true (by first | (with_reducible assumption) | assumption); obtain ⟨ad163, e163, hx163_0⟩ := Kd.at_int (Kd.R_reads' HO160.out).2.2 t161 p163 q163; cases e163; replace p163 := eq_true p163; replace q163 := eq_true q163) | ((with_reducible refine gate_callee (f := 74) rfl ?_); refine goesL_ (some 20) rfl rfl Try.func74 (by kernel_rfl) rfl #[.pointer (some ⟨g, 0, none⟩), .int .i64 9] rfl (by (try simp only [List.map_toArray, List.map_cons, List.map_nil]); first | done | rfl | (simp only [List.length_drop, List.length_take]; rfl)) ?_; (with_reducible refine (spec_l20Rd_pick.calls k g s0_0 t162 9 t164 t165 w0 _ ?side1 ?side2 A19.out).mono ?_); (case side1 => repeat (first | (with_reducible first | exact HI0.out | apply IsS115.alloc | apply IsS115.drewN | apply IsS115.drew | apply IsS115.set_1 | refine IsS115.far ?_ NB0_143.out _ | refine IsS115.far ?_ NB0_155.out _) | exact HI0.out)); (case side2 => repeat (first | (with_reducible first | exact HB.out | apply below_alloc | apply pw_below_drewN | apply below_drew1 | refine below_set ?_ (IsS115.ge HI0.out) | refine below_set ?_ GE143.out | refine below_set ?_ GE155.out) | exact HB.out)); rintro e w32 ⟨rfl, hi, hb, hk⟩; refine ⟨_, rfl, ?_⟩; have n0_ := Aside0.mk (KeepBut.blk hk (g' := gb143) (o := .cells #[.int .i64 0, .int .i64 0, .int .i64 0, .int .i64 0, .int .i64 0, .int .i64 0, .int .i64 0, .bool false, .int .i64 0, .int .i64 0] 50 (0, 0)) (by (with_reducible repeat (first | refine blk_drewN ?_ _ | refine blk_drew ?_ | refine blk_alloc ?_ _)); exact BK143.out) NB143_0.out (by simp)); have n1_ := Aside0.mk (KeepBut.blk hk (g' := gb155) (o := .cells #[.int .i64 t144, .int .i64 t145, .int .i64 t146, .int .i64 t147, .int .i64 t148, .int .i64 t149, .int .i64 t150, .bool t151, .int .i64 t152, .int .i64 t153] 50 (0, 0)) (by (with_reducible repeat (first | refine blk_drewN ?_ _ | refine blk_drew ?_ | refine blk_alloc ?_ _)); exact BK155.out) NB155_0.out (by simp)); have n2_ := Aside0.mk (Kd.R_mono (Kd.R_keep (IsS115.apart (show IsS115 w0 _ g s0_0 t162 from by repeat (first | (with_reducible first | exact HI0.out | apply IsS115.alloc | apply IsS115.drewN | apply IsS115.drew | apply IsS115.set_1 | refine IsS115.far ?_ NB0_143.out _ | refine IsS115.far ?_ NB0_155.out _) | exact HI0.out)) (by (with_reducible repeat (first | apply Kd.R_alloc | apply Kd.R_drewN | apply Kd.R_drew)); exact HO160.out) (by decide)) hk (fun _ h => h.2)) (fun _ h => h.1)); have n3_ := Aside0.mk (KeepBut.trans (by repeat (first | (with_reducible first | exact HK.out | apply KeepBut.set_ | apply keep_drewN | apply keep_drew | apply keep_alloc | refine keep_far ?_ GW143.out _ | refine keep_far ?_ GW155.out _) | exact HK.out)) hk (.inl rfl)); have n4_ := Aside0.mk (hb); have n5_ := Aside0.mk (hi); clear BK143; clear BK155; clear HO160; clear HK; clear HB; clear HI0; have BK143 := n0_; have BK155 := n1_; have HO160 := n2_; have HK := n3_; have HB := n4_; have HI0 := n5_; clear n0_ n1_ n2_ n3_ n4_ n5_; (try clear hb); (try clear hb2); (try clear hk); (try clear hi)))
    (try simp only [Act.put, List.setIfInBounds_toArray, List.set_cons_zero, List.set_cons_succ])
    go_cut [] (fun wc => ∃ (kq : Nat) (x156000_19 : Int) (x156001_19 : Int) (x156002_19 : Int) (x156003_19 : Int) (x156004_19 : Int) (x156005_19 : Int) (x156006_19 : Int) (x156008_19 : Int) (x156009_19 : Int), Aside0 (spec_l20AnyJob.j0 kq s0_0 t165 x156000_19 x156001_19 x156002_19 x156003_19 x156004_19 x156005_19 x156006_19 t151 x156008_19 x156009_19 = some (r1, r2, r3, r4, r5, r6, r7, r8, r9, r10, r11)) ∧ Aside0 (kq ≤ k) ∧ Aside0 (wc.heap[gb143]? = some (.cells #[.int .i64 0, .int .i64 0, .int .i64 0, .int .i64 0, .int .i64 0, .int .i64 0, .int .i64 0, .bool false, .int .i64 0, .int .i64 0] 50 (0, 0))) ∧ Aside0 (wc.heap[gb155]? = some (.cells #[.int .i64 x156000_19, .int .i64 x156001_19, .int .i64 x156002_19, .int .i64 x156003_19, .int .i64 x156004_19, .int .i64 x156005_19, .int .i64 x156006_19, .bool t151, .int .i64 x156008_19, .int .i64 x156009_19] 50 (0, 0))) ∧ Aside0 (IsS115 w0 wc g s0_0 t165) ∧ Aside0 (KeepBut w wc g none) ∧ Aside0 (Below w0.heap.size w0 wc))
    case first =>
     have H := HC20.out
     clear HC20
     by_cases c33 : t164 = 0
     ·rw [if_pos c33] at H
      have c33b0 : (t164 == 0) = true := beq_iff_eq.mpr c33
      have c33b1 : (t164 != 0) = false := bne_eq_false_iff_eq.mpr c33
      clear c33
      (first | rw [c33b0] | (simp only [i64_w, i32_w]; rw [c33b0]) | skip)
      have H' := Aside0.mk H
      clear H
      have hnb34 := NB155_143.out
      have hnc34 := NB143_155.out
      have hnb35 := NB155_0.out
      have hnc35 := NB0_155.out
      have hcz36_0 : w32.cell? ⟨gb155, 0, none⟩ = some (.int .i64 t144) := (blk_cell BK155.out 0).trans rfl
      have hcz36_1 : w32.cell? ⟨gb155, 1, none⟩ = some (.int .i64 t145) := (blk_cell BK155.out 1).trans rfl
      have hcz36_2 : w32.cell? ⟨gb155, 2, none⟩ = some (.int .i64 t146) := (blk_cell BK155.out 2).trans rfl
      have hcz36_3 : w32.cell? ⟨gb155, 3, none⟩ = some (.int .i64 t147) := (blk_cell BK155.out 3).trans rfl
      have hcz36_4 : w32.cell? ⟨gb155, 4, none⟩ = some (.int .i64 t148) := (blk_cell BK155.out 4).trans rfl
      have hcz36_5 : w32.cell? ⟨gb155, 5, none⟩ = some (.int .i64 t149) := (blk_cell BK155.out 5).trans rfl
      have hcz36_6 : w32.cell? ⟨gb155, 6, none⟩ = some (.int .i64 t150) := (blk_cell BK155.out 6).trans rfl
      have hcz36_7 : w32.cell? ⟨gb155, 7, none⟩ = some (.bool t151) := (blk_cell BK155.out 7).trans rfl
      have hcz36_8 : w32.cell? ⟨gb155, 8, none⟩ = some (.int .i64 t152) := (blk_cell BK155.out 8).trans rfl
      have hcz36_9 : w32.cell? ⟨gb155, 9, none⟩ = some (.int .i64 t153) := (blk_cell BK155.out 9).trans rfl
      have hfz36_0 := blk_frozen BK155.out 0
      have hfz36_1 := blk_frozen BK155.out 1
      have hfz36_2 := blk_frozen BK155.out 2
      have hfz36_3 := blk_frozen BK155.out 3
      have hfz36_4 := blk_frozen BK155.out 4
      have hfz36_5 := blk_frozen BK155.out 5
      have hfz36_6 := blk_frozen BK155.out 6
      have hfz36_7 := blk_frozen BK155.out 7
      have hfz36_8 := blk_frozen BK155.out 8
      have hfz36_9 := blk_frozen BK155.out 9
      go_wp2
      go_meet
      case rel => exact ⟨_, (rd y158 t161), (t145), (t146), (t147), (t148), (t149), (t150), (t152), (t153), H', ⟨by first | omega | exact Nat.le_refl _⟩, ⟨by (with_reducible repeat (first | refine blk_drewN ?_ _ | refine blk_drew ?_ | refine blk_alloc ?_ _)); refine blk_far ?_ NB143_155.out _; (with_reducible repeat (first | refine blk_drewN ?_ _ | refine blk_drew ?_ | refine blk_alloc ?_ _)); exact BK143.out⟩, ⟨by (with_reducible repeat (first | refine blk_drewN ?_ _ | refine blk_drew ?_ | refine blk_alloc ?_ _)); refine blk_put (cs := #[.int .i64 t144, .int .i64 t145, .int .i64 t146, .int .i64 t147, .int .i64 t148, .int .i64 t149, .int .i64 t150, .bool t151, .int .i64 t152, .int .i64 t153]) ?_ 0 _ rfl; (with_reducible repeat (first | refine blk_drewN ?_ _ | refine blk_drew ?_ | refine blk_alloc ?_ _)); exact BK155.out⟩, ⟨by repeat (first | (with_reducible first | exact HI0.out | apply IsS115.alloc | apply IsS115.drewN | apply IsS115.drew | apply IsS115.set_1 | refine IsS115.far ?_ NB0_143.out _ | refine IsS115.far ?_ NB0_155.out _) | exact HI0.out)⟩, ⟨by repeat (first | (with_reducible first | exact HK.out | apply KeepBut.set_ | apply keep_drewN | apply keep_drew | apply keep_alloc | refine keep_far ?_ GW143.out _ | refine keep_far ?_ GW155.out _) | exact HK.out)⟩, ⟨by repeat (first | (with_reducible first | exact HB.out | apply below_alloc | apply pw_below_drewN | apply below_drew1 | refine below_set ?_ (IsS115.ge HI0.out) | refine below_set ?_ GE143.out | refine below_set ?_ GE155.out) | exact HB.out)⟩⟩
     ·rw [if_neg c33] at H
      have c33b0 : (t164 == 0) = false := beq_eq_false_iff_ne.mpr c33
      have c33b1 : (t164 != 0) = true := bne_iff_ne.mpr c33
      (first | rw [c33b0] | (simp only [i64_w, i32_w]; rw [c33b0]) | skip)
      by_cases c37 : t164 = 1
      ·rw [if_pos c37] at H
       have c37b0 : (t164 == 1) = true := beq_iff_eq.mpr c37
       have c37b1 : (t164 != 1) = false := bne_eq_false_iff_eq.mpr c37
       clear c37
       have H' := Aside0.mk H
       clear H
       have hnb38 := NB155_143.out
       have hnc38 := NB143_155.out
       have hnb39 := NB155_0.out
       have hnc39 := NB0_155.out
       have hcz40_0 : w32.cell? ⟨gb155, 0, none⟩ = some (.int .i64 t144) := (blk_cell BK155.out 0).trans rfl
       have hcz40_1 : w32.cell? ⟨gb155, 1, none⟩ = some (.int .i64 t145) := (blk_cell BK155.out 1).trans rfl
       have hcz40_2 : w32.cell? ⟨gb155, 2, none⟩ = some (.int .i64 t146) := (blk_cell BK155.out 2).trans rfl
       have hcz40_3 : w32.cell? ⟨gb155, 3, none⟩ = some (.int .i64 t147) := (blk_cell BK155.out 3).trans rfl
       have hcz40_4 : w32.cell? ⟨gb155, 4, none⟩ = some (.int .i64 t148) := (blk_cell BK155.out 4).trans rfl
       have hcz40_5 : w32.cell? ⟨gb155, 5, none⟩ = some (.int .i64 t149) := (blk_cell BK155.out 5).trans rfl
       have hcz40_6 : w32.cell? ⟨gb155, 6, none⟩ = some (.int .i64 t150) := (blk_cell BK155.out 6).trans rfl
       have hcz40_7 : w32.cell? ⟨gb155, 7, none⟩ = some (.bool t151) := (blk_cell BK155.out 7).trans rfl
       have hcz40_8 : w32.cell? ⟨gb155, 8, none⟩ = some (.int .i64 t152) := (blk_cell BK155.out 8).trans rfl
       have hcz40_9 : w32.cell? ⟨gb155, 9, none⟩ = some (.int .i64 t153) := (blk_cell BK155.out 9).trans rfl
       have hfz40_0 := blk_frozen BK155.out 0
       have hfz40_1 := blk_frozen BK155.out 1
       have hfz40_2 := blk_frozen BK155.out 2
       have hfz40_3 := blk_frozen BK155.out 3
       have hfz40_4 := blk_frozen BK155.out 4
       have hfz40_5 := blk_frozen BK155.out 5
       have hfz40_6 := blk_frozen BK155.out 6
       have hfz40_7 := blk_frozen BK155.out 7
       have hfz40_8 := blk_frozen BK155.out 8
       have hfz40_9 := blk_frozen BK155.out 9
       go_wp2
       go_meet
       case rel => exact ⟨_, (t144), (rd y158 t161), (t146), (t147), (t148), (t149), (t150), (t152), (t153), H', ⟨by first | omega | exact Nat.le_refl _⟩, ⟨by (with_reducible repeat (first | refine blk_drewN ?_ _ | refine blk_drew ?_ | refine blk_alloc ?_ _)); refine blk_far ?_ NB143_155.out _; (with_reducible repeat (first | refine blk_drewN ?_ _ | refine blk_drew ?_ | refine blk_alloc ?_ _)); exact BK143.out⟩, ⟨by (with_reducible repeat (first | refine blk_drewN ?_ _ | refine blk_drew ?_ | refine blk_alloc ?_ _)); refine blk_put (cs := #[.int .i64 t144, .int .i64 t145, .int .i64 t146, .int .i64 t147, .int .i64 t148, .int .i64 t149, .int .i64 t150, .bool t151, .int .i64 t152, .int .i64 t153]) ?_ 1 _ rfl; (with_reducible repeat (first | refine blk_drewN ?_ _ | refine blk_drew ?_ | refine blk_alloc ?_ _)); exact BK155.out⟩, ⟨by repeat (first | (with_reducible first | exact HI0.out | apply IsS115.alloc | apply IsS115.drewN | apply IsS115.drew | apply IsS115.set_1 | refine IsS115.far ?_ NB0_143.out _ | refine IsS115.far ?_ NB0_155.out _) | exact HI0.out)⟩, ⟨by repeat (first | (with_reducible first | exact HK.out | apply KeepBut.set_ | apply keep_drewN | apply keep_drew | apply keep_alloc | refine keep_far ?_ GW143.out _ | refine keep_far ?_ GW155.out _) | exact HK.out)⟩, ⟨by repeat (first | (with_reducible first | exact HB.out | apply below_alloc | apply pw_below_drewN | apply below_drew1 | refine below_set ?_ (IsS115.ge HI0.out) | refine below_set ?_ GE143.out | refine below_set ?_ GE155.out) | exact HB.out)⟩⟩
      ·rw [if_neg c37] at H
       have c37b0 : (t164 == 1) = false := beq_eq_false_iff_ne.mpr c37
       have c37b1 : (t164 != 1) = true := bne_iff_ne.mpr c37
       by_cases c41 : t164 = 2
       ·rw [if_pos c41] at H
        have c41b0 : (t164 == 2) = true := beq_iff_eq.mpr c41
        have c41b1 : (t164 != 2) = false := bne_eq_false_iff_eq.mpr c41
        clear c41
        have H' := Aside0.mk H
        clear H
        have hnb42 := NB155_143.out
        have hnc42 := NB143_155.out
        have hnb43 := NB155_0.out
        have hnc43 := NB0_155.out
        have hcz44_0 : w32.cell? ⟨gb155, 0, none⟩ = some (.int .i64 t144) := (blk_cell BK155.out 0).trans rfl
        have hcz44_1 : w32.cell? ⟨gb155, 1, none⟩ = some (.int .i64 t145) := (blk_cell BK155.out 1).trans rfl
        have hcz44_2 : w32.cell? ⟨gb155, 2, none⟩ = some (.int .i64 t146) := (blk_cell BK155.out 2).trans rfl
        have hcz44_3 : w32.cell? ⟨gb155, 3, none⟩ = some (.int .i64 t147) := (blk_cell BK155.out 3).trans rfl
        have hcz44_4 : w32.cell? ⟨gb155, 4, none⟩ = some (.int .i64 t148) := (blk_cell BK155.out 4).trans rfl
        have hcz44_5 : w32.cell? ⟨gb155, 5, none⟩ = some (.int .i64 t149) := (blk_cell BK155.out 5).trans rfl
        have hcz44_6 : w32.cell? ⟨gb155, 6, none⟩ = some (.int .i64 t150) := (blk_cell BK155.out 6).trans rfl
        have hcz44_7 : w32.cell? ⟨gb155, 7, none⟩ = some (.bool t151) := (blk_cell BK155.out 7).trans rfl
        have hcz44_8 : w32.cell? ⟨gb155, 8, none⟩ = some (.int .i64 t152) := (blk_cell BK155.out 8).trans rfl
        have hcz44_9 : w32.cell? ⟨gb155, 9, none⟩ = some (.int .i64 t153) := (blk_cell BK155.out 9).trans rfl
        have hfz44_0 := blk_frozen BK155.out 0
        have hfz44_1 := blk_frozen BK155.out 1
        have hfz44_2 := blk_frozen BK155.out 2
        have hfz44_3 := blk_frozen BK155.out 3
        have hfz44_4 := blk_frozen BK155.out 4
        have hfz44_5 := blk_frozen BK155.out 5
        have hfz44_6 := blk_frozen BK155.out 6
        have hfz44_7 := blk_frozen BK155.out 7
        have hfz44_8 := blk_frozen BK155.out 8
        have hfz44_9 := blk_frozen BK155.out 9
        go_wp2
        go_meet
        case rel => exact ⟨_, (t144), (t145), (rd y158 t161), (t147), (t148), (t149), (t150), (t152), (t153), H', ⟨by first | omega | exact Nat.le_refl _⟩, ⟨by (with_reducible repeat (first | refine blk_drewN ?_ _ | refine blk_drew ?_ | refine blk_alloc ?_ _)); refine blk_far ?_ NB143_155.out _; (with_reducible repeat (first | refine blk_drewN ?_ _ | refine blk_drew ?_ | refine blk_alloc ?_ _)); exact BK143.out⟩, ⟨by (with_reducible repeat (first | refine blk_drewN ?_ _ | refine blk_drew ?_ | refine blk_alloc ?_ _)); refine blk_put (cs := #[.int .i64 t144, .int .i64 t145, .int .i64 t146, .int .i64 t147, .int .i64 t148, .int .i64 t149, .int .i64 t150, .bool t151, .int .i64 t152, .int .i64 t153]) ?_ 2 _ rfl; (with_reducible repeat (first | refine blk_drewN ?_ _ | refine blk_drew ?_ | refine blk_alloc ?_ _)); exact BK155.out⟩, ⟨by repeat (first | (with_reducible first | exact HI0.out | apply IsS115.alloc | apply IsS115.drewN | apply IsS115.drew | apply IsS115.set_1 | refine IsS115.far ?_ NB0_143.out _ | refine IsS115.far ?_ NB0_155.out _) | exact HI0.out)⟩, ⟨by repeat (first | (with_reducible first | exact HK.out | apply KeepBut.set_ | apply keep_drewN | apply keep_drew | apply keep_alloc | refine keep_far ?_ GW143.out _ | refine keep_far ?_ GW155.out _) | exact HK.out)⟩, ⟨by repeat (first | (with_reducible first | exact HB.out | apply below_alloc | apply pw_below_drewN | apply below_drew1 | refine below_set ?_ (IsS115.ge HI0.out) | refine below_set ?_ GE143.out | refine below_set ?_ GE155.out) | exact HB.out)⟩⟩
       ·rw [if_neg c41] at H
        have c41b0 : (t164 == 2) = false := beq_eq_false_iff_ne.mpr c41
        have c41b1 : (t164 != 2) = true := bne_iff_ne.mpr c41
        by_cases c45 : t164 = 3
        ·rw [if_pos c45] at H
         have c45b0 : (t164 == 3) = true := beq_iff_eq.mpr c45
         have c45b1 : (t164 != 3) = false := bne_eq_false_iff_eq.mpr c45
         clear c45
         have H' := Aside0.mk H
         clear H
         have hnb46 := NB155_143.out
         have hnc46 := NB143_155.out
         have hnb47 := NB155_0.out
         have hnc47 := NB0_155.out
         have hcz48_0 : w32.cell? ⟨gb155, 0, none⟩ = some (.int .i64 t144) := (blk_cell BK155.out 0).trans rfl
         have hcz48_1 : w32.cell? ⟨gb155, 1, none⟩ = some (.int .i64 t145) := (blk_cell BK155.out 1).trans rfl
         have hcz48_2 : w32.cell? ⟨gb155, 2, none⟩ = some (.int .i64 t146) := (blk_cell BK155.out 2).trans rfl
         have hcz48_3 : w32.cell? ⟨gb155, 3, none⟩ = some (.int .i64 t147) := (blk_cell BK155.out 3).trans rfl
         have hcz48_4 : w32.cell? ⟨gb155, 4, none⟩ = some (.int .i64 t148) := (blk_cell BK155.out 4).trans rfl
         have hcz48_5 : w32.cell? ⟨gb155, 5, none⟩ = some (.int .i64 t149) := (blk_cell BK155.out 5).trans rfl
         have hcz48_6 : w32.cell? ⟨gb155, 6, none⟩ = some (.int .i64 t150) := (blk_cell BK155.out 6).trans rfl
         have hcz48_7 : w32.cell? ⟨gb155, 7, none⟩ = some (.bool t151) := (blk_cell BK155.out 7).trans rfl
         have hcz48_8 : w32.cell? ⟨gb155, 8, none⟩ = some (.int .i64 t152) := (blk_cell BK155.out 8).trans rfl
         have hcz48_9 : w32.cell? ⟨gb155, 9, none⟩ = some (.int .i64 t153) := (blk_cell BK155.out 9).trans rfl
         have hfz48_0 := blk_frozen BK155.out 0
         have hfz48_1 := blk_frozen BK155.out 1
         have hfz48_2 := blk_frozen BK155.out 2
         have hfz48_3 := blk_frozen BK155.out 3
         have hfz48_4 := blk_frozen BK155.out 4
         have hfz48_5 := blk_frozen BK155.out 5
         have hfz48_6 := blk_frozen BK155.out 6
         have hfz48_7 := blk_frozen BK155.out 7
         have hfz48_8 := blk_frozen BK155.out 8
         have hfz48_9 := blk_frozen BK155.out 9
         go_wp2
         go_meet
         case rel => exact ⟨_, (t144), (t145), (t146), (rd y158 t161), (t148), (t149), (t150), (t152), (t153), H', ⟨by first | omega | exact Nat.le_refl _⟩, ⟨by (with_reducible repeat (first | refine blk_drewN ?_ _ | refine blk_drew ?_ | refine blk_alloc ?_ _)); refine blk_far ?_ NB143_155.out _; (with_reducible repeat (first | refine blk_drewN ?_ _ | refine blk_drew ?_ | refine blk_alloc ?_ _)); exact BK143.out⟩, ⟨by (with_reducible repeat (first | refine blk_drewN ?_ _ | refine blk_drew ?_ | refine blk_alloc ?_ _)); refine blk_put (cs := #[.int .i64 t144, .int .i64 t145, .int .i64 t146, .int .i64 t147, .int .i64 t148, .int .i64 t149, .int .i64 t150, .bool t151, .int .i64 t152, .int .i64 t153]) ?_ 3 _ rfl; (with_reducible repeat (first | refine blk_drewN ?_ _ | refine blk_drew ?_ | refine blk_alloc ?_ _)); exact BK155.out⟩, ⟨by repeat (first | (with_reducible first | exact HI0.out | apply IsS115.alloc | apply IsS115.drewN | apply IsS115.drew | apply IsS115.set_1 | refine IsS115.far ?_ NB0_143.out _ | refine IsS115.far ?_ NB0_155.out _) | exact HI0.out)⟩, ⟨by repeat (first | (with_reducible first | exact HK.out | apply KeepBut.set_ | apply keep_drewN | apply keep_drew | apply keep_alloc | refine keep_far ?_ GW143.out _ | refine keep_far ?_ GW155.out _) | exact HK.out)⟩, ⟨by repeat (first | (with_reducible first | exact HB.out | apply below_alloc | apply pw_below_drewN | apply below_drew1 | refine below_set ?_ (IsS115.ge HI0.out) | refine below_set ?_ GE143.out | refine below_set ?_ GE155.out) | exact HB.out)⟩⟩
        ·rw [if_neg c45] at H
         have c45b0 : (t164 == 3) = false := beq_eq_false_iff_ne.mpr c45
         have c45b1 : (t164 != 3) = true := bne_iff_ne.mpr c45
         by_cases c49 : t164 = 4
         ·rw [if_pos c49] at H
          have c49b0 : (t164 == 4) = true := beq_iff_eq.mpr c49
          have c49b1 : (t164 != 4) = false := bne_eq_false_iff_eq.mpr c49
          clear c49
          have H' := Aside0.mk H
          clear H
          have hnb50 := NB155_143.out
          have hnc50 := NB143_155.out
          have hnb51 := NB155_0.out
          have hnc51 := NB0_155.out
          have hcz52_0 : w32.cell? ⟨gb155, 0, none⟩ = some (.int .i64 t144) := (blk_cell BK155.out 0).trans rfl
          have hcz52_1 : w32.cell? ⟨gb155, 1, none⟩ = some (.int .i64 t145) := (blk_cell BK155.out 1).trans rfl
          have hcz52_2 : w32.cell? ⟨gb155, 2, none⟩ = some (.int .i64 t146) := (blk_cell BK155.out 2).trans rfl
          have hcz52_3 : w32.cell? ⟨gb155, 3, none⟩ = some (.int .i64 t147) := (blk_cell BK155.out 3).trans rfl
          have hcz52_4 : w32.cell? ⟨gb155, 4, none⟩ = some (.int .i64 t148) := (blk_cell BK155.out 4).trans rfl
          have hcz52_5 : w32.cell? ⟨gb155, 5, none⟩ = some (.int .i64 t149) := (blk_cell BK155.out 5).trans rfl
          have hcz52_6 : w32.cell? ⟨gb155, 6, none⟩ = some (.int .i64 t150) := (blk_cell BK155.out 6).trans rfl
          have hcz52_7 : w32.cell? ⟨gb155, 7, none⟩ = some (.bool t151) := (blk_cell BK155.out 7).trans rfl
          have hcz52_8 : w32.cell? ⟨gb155, 8, none⟩ = some (.int .i64 t152) := (blk_cell BK155.out 8).trans rfl
          have hcz52_9 : w32.cell? ⟨gb155, 9, none⟩ = some (.int .i64 t153) := (blk_cell BK155.out 9).trans rfl
          have hfz52_0 := blk_frozen BK155.out 0
          have hfz52_1 := blk_frozen BK155.out 1
          have hfz52_2 := blk_frozen BK155.out 2
          have hfz52_3 := blk_frozen BK155.out 3
          have hfz52_4 := blk_frozen BK155.out 4
          have hfz52_5 := blk_frozen BK155.out 5
          have hfz52_6 := blk_frozen BK155.out 6
          have hfz52_7 := blk_frozen BK155.out 7
          have hfz52_8 := blk_frozen BK155.out 8
          have hfz52_9 := blk_frozen BK155.out 9
          go_wp2
          go_meet
          case rel => exact ⟨_, (t144), (t145), (t146), (t147), (rd y158 t161), (t149), (t150), (t152), (t153), H', ⟨by first | omega | exact Nat.le_refl _⟩, ⟨by (with_reducible repeat (first | refine blk_drewN ?_ _ | refine blk_drew ?_ | refine blk_alloc ?_ _)); refine blk_far ?_ NB143_155.out _; (with_reducible repeat (first | refine blk_drewN ?_ _ | refine blk_drew ?_ | refine blk_alloc ?_ _)); exact BK143.out⟩, ⟨by (with_reducible repeat (first | refine blk_drewN ?_ _ | refine blk_drew ?_ | refine blk_alloc ?_ _)); refine blk_put (cs := #[.int .i64 t144, .int .i64 t145, .int .i64 t146, .int .i64 t147, .int .i64 t148, .int .i64 t149, .int .i64 t150, .bool t151, .int .i64 t152, .int .i64 t153]) ?_ 4 _ rfl; (with_reducible repeat (first | refine blk_drewN ?_ _ | refine blk_drew ?_ | refine blk_alloc ?_ _)); exact BK155.out⟩, ⟨by repeat (first | (with_reducible first | exact HI0.out | apply IsS115.alloc | apply IsS115.drewN | apply IsS115.drew | apply IsS115.set_1 | refine IsS115.far ?_ NB0_143.out _ | refine IsS115.far ?_ NB0_155.out _) | exact HI0.out)⟩, ⟨by repeat (first | (with_reducible first | exact HK.out | apply KeepBut.set_ | apply keep_drewN | apply keep_drew | apply keep_alloc | refine keep_far ?_ GW143.out _ | refine keep_far ?_ GW155.out _) | exact HK.out)⟩, ⟨by repeat (first | (with_reducible first | exact HB.out | apply below_alloc | apply pw_below_drewN | apply below_drew1 | refine below_set ?_ (IsS115.ge HI0.out) | refine below_set ?_ GE143.out | refine below_set ?_ GE155.out) | exact HB.out)⟩⟩
         ·rw [if_neg c49] at H
          have c49b0 : (t164 == 4) = false := beq_eq_false_iff_ne.mpr c49
          have c49b1 : (t164 != 4) = true := bne_iff_ne.mpr c49
          by_cases c53 : t164 = 5
          ·rw [if_pos c53] at H
           have c53b0 : (t164 == 5) = true := beq_iff_eq.mpr c53
           have c53b1 : (t164 != 5) = false := bne_eq_false_iff_eq.mpr c53
           clear c53
           have H' := Aside0.mk H
           clear H
           have hnb54 := NB155_143.out
           have hnc54 := NB143_155.out
           have hnb55 := NB155_0.out
           have hnc55 := NB0_155.out
           have hcz56_0 : w32.cell? ⟨gb155, 0, none⟩ = some (.int .i64 t144) := (blk_cell BK155.out 0).trans rfl
           have hcz56_1 : w32.cell? ⟨gb155, 1, none⟩ = some (.int .i64 t145) := (blk_cell BK155.out 1).trans rfl
           have hcz56_2 : w32.cell? ⟨gb155, 2, none⟩ = some (.int .i64 t146) := (blk_cell BK155.out 2).trans rfl
           have hcz56_3 : w32.cell? ⟨gb155, 3, none⟩ = some (.int .i64 t147) := (blk_cell BK155.out 3).trans rfl
           have hcz56_4 : w32.cell? ⟨gb155, 4, none⟩ = some (.int .i64 t148) := (blk_cell BK155.out 4).trans rfl
           have hcz56_5 : w32.cell? ⟨gb155, 5, none⟩ = some (.int .i64 t149) := (blk_cell BK155.out 5).trans rfl
           have hcz56_6 : w32.cell? ⟨gb155, 6, none⟩ = some (.int .i64 t150) := (blk_cell BK155.out 6).trans rfl
           have hcz56_7 : w32.cell? ⟨gb155, 7, none⟩ = some (.bool t151) := (blk_cell BK155.out 7).trans rfl
           have hcz56_8 : w32.cell? ⟨gb155, 8, none⟩ = some (.int .i64 t152) := (blk_cell BK155.out 8).trans rfl
           have hcz56_9 : w32.cell? ⟨gb155, 9, none⟩ = some (.int .i64 t153) := (blk_cell BK155.out 9).trans rfl
           have hfz56_0 := blk_frozen BK155.out 0
           have hfz56_1 := blk_frozen BK155.out 1
           have hfz56_2 := blk_frozen BK155.out 2
           have hfz56_3 := blk_frozen BK155.out 3
           have hfz56_4 := blk_frozen BK155.out 4
           have hfz56_5 := blk_frozen BK155.out 5
           have hfz56_6 := blk_frozen BK155.out 6
           have hfz56_7 := blk_frozen BK155.out 7
           have hfz56_8 := blk_frozen BK155.out 8
           have hfz56_9 := blk_frozen BK155.out 9
           go_wp2
           go_meet
           case rel => exact ⟨_, (t144), (t145), (t146), (t147), (t148), (rd y158 t161), (t150), (t152), (t153), H', ⟨by first | omega | exact Nat.le_refl _⟩, ⟨by (with_reducible repeat (first | refine blk_drewN ?_ _ | refine blk_drew ?_ | refine blk_alloc ?_ _)); refine blk_far ?_ NB143_155.out _; (with_reducible repeat (first | refine blk_drewN ?_ _ | refine blk_drew ?_ | refine blk_alloc ?_ _)); exact BK143.out⟩, ⟨by (with_reducible repeat (first | refine blk_drewN ?_ _ | refine blk_drew ?_ | refine blk_alloc ?_ _)); refine blk_put (cs := #[.int .i64 t144, .int .i64 t145, .int .i64 t146, .int .i64 t147, .int .i64 t148, .int .i64 t149, .int .i64 t150, .bool t151, .int .i64 t152, .int .i64 t153]) ?_ 5 _ rfl; (with_reducible repeat (first | refine blk_drewN ?_ _ | refine blk_drew ?_ | refine blk_alloc ?_ _)); exact BK155.out⟩, ⟨by repeat (first | (with_reducible first | exact HI0.out | apply IsS115.alloc | apply IsS115.drewN | apply IsS115.drew | apply IsS115.set_1 | refine IsS115.far ?_ NB0_143.out _ | refine IsS115.far ?_ NB0_155.out _) | exact HI0.out)⟩, ⟨by repeat (first | (with_reducible first | exact HK.out | apply KeepBut.set_ | apply keep_drewN | apply keep_drew | apply keep_alloc | refine keep_far ?_ GW143.out _ | refine keep_far ?_ GW155.out _) | exact HK.out)⟩, ⟨by repeat (first | (with_reducible first | exact HB.out | apply below_alloc | apply pw_below_drewN | apply below_drew1 | refine below_set ?_ (IsS115.ge HI0.out) | refine below_set ?_ GE143.out | refine below_set ?_ GE155.out) | exact HB.out)⟩⟩
          ·rw [if_neg c53] at H
           have c53b0 : (t164 == 5) = false := beq_eq_false_iff_ne.mpr c53
           have c53b1 : (t164 != 5) = true := bne_iff_ne.mpr c53
           by_cases c57 : t164 = 6
           ·rw [if_pos c57] at H
            have c57b0 : (t164 == 6) = true := beq_iff_eq.mpr c57
            have c57b1 : (t164 != 6) = false := bne_eq_false_iff_eq.mpr c57
            clear c57
            have H' := Aside0.mk H
            clear H
            have hnb58 := NB155_143.out
            have hnc58 := NB143_155.out
            have hnb59 := NB155_0.out
            have hnc59 := NB0_155.out
            have hcz60_0 : w32.cell? ⟨gb155, 0, none⟩ = some (.int .i64 t144) := (blk_cell BK155.out 0).trans rfl
            have hcz60_1 : w32.cell? ⟨gb155, 1, none⟩ = some (.int .i64 t145) := (blk_cell BK155.out 1).trans rfl
            have hcz60_2 : w32.cell? ⟨gb155, 2, none⟩ = some (.int .i64 t146) := (blk_cell BK155.out 2).trans rfl
            have hcz60_3 : w32.cell? ⟨gb155, 3, none⟩ = some (.int .i64 t147) := (blk_cell BK155.out 3).trans rfl
            have hcz60_4 : w32.cell? ⟨gb155, 4, none⟩ = some (.int .i64 t148) := (blk_cell BK155.out 4).trans rfl
            have hcz60_5 : w32.cell? ⟨gb155, 5, none⟩ = some (.int .i64 t149) := (blk_cell BK155.out 5).trans rfl
            have hcz60_6 : w32.cell? ⟨gb155, 6, none⟩ = some (.int .i64 t150) := (blk_cell BK155.out 6).trans rfl
            have hcz60_7 : w32.cell? ⟨gb155, 7, none⟩ = some (.bool t151) := (blk_cell BK155.out 7).trans rfl
            have hcz60_8 : w32.cell? ⟨gb155, 8, none⟩ = some (.int .i64 t152) := (blk_cell BK155.out 8).trans rfl
            have hcz60_9 : w32.cell? ⟨gb155, 9, none⟩ = some (.int .i64 t153) := (blk_cell BK155.out 9).trans rfl
            have hfz60_0 := blk_frozen BK155.out 0
            have hfz60_1 := blk_frozen BK155.out 1
            have hfz60_2 := blk_frozen BK155.out 2
            have hfz60_3 := blk_frozen BK155.out 3
            have hfz60_4 := blk_frozen BK155.out 4
            have hfz60_5 := blk_frozen BK155.out 5
            have hfz60_6 := blk_frozen BK155.out 6
            have hfz60_7 := blk_frozen BK155.out 7
            have hfz60_8 := blk_frozen BK155.out 8
            have hfz60_9 := blk_frozen BK155.out 9
            go_wp2
            go_meet
            case rel => exact ⟨_, (t144), (t145), (t146), (t147), (t148), (t149), (rd y158 t161), (t152), (t153), H', ⟨by first | omega | exact Nat.le_refl _⟩, ⟨by (with_reducible repeat (first | refine blk_drewN ?_ _ | refine blk_drew ?_ | refine blk_alloc ?_ _)); refine blk_far ?_ NB143_155.out _; (with_reducible repeat (first | refine blk_drewN ?_ _ | refine blk_drew ?_ | refine blk_alloc ?_ _)); exact BK143.out⟩, ⟨by (with_reducible repeat (first | refine blk_drewN ?_ _ | refine blk_drew ?_ | refine blk_alloc ?_ _)); refine blk_put (cs := #[.int .i64 t144, .int .i64 t145, .int .i64 t146, .int .i64 t147, .int .i64 t148, .int .i64 t149, .int .i64 t150, .bool t151, .int .i64 t152, .int .i64 t153]) ?_ 6 _ rfl; (with_reducible repeat (first | refine blk_drewN ?_ _ | refine blk_drew ?_ | refine blk_alloc ?_ _)); exact BK155.out⟩, ⟨by repeat (first | (with_reducible first | exact HI0.out | apply IsS115.alloc | apply IsS115.drewN | apply IsS115.drew | apply IsS115.set_1 | refine IsS115.far ?_ NB0_143.out _ | refine IsS115.far ?_ NB0_155.out _) | exact HI0.out)⟩, ⟨by repeat (first | (with_reducible first | exact HK.out | apply KeepBut.set_ | apply keep_drewN | apply keep_drew | apply keep_alloc | refine keep_far ?_ GW143.out _ | refine keep_far ?_ GW155.out _) | exact HK.out)⟩, ⟨by repeat (first | (with_reducible first | exact HB.out | apply below_alloc | apply pw_below_drewN | apply below_drew1 | refine below_set ?_ (IsS115.ge HI0.out) | refine below_set ?_ GE143.out | refine below_set ?_ GE155.out) | exact HB.out)⟩⟩
           ·rw [if_neg c57] at H
            have c57b0 : (t164 == 6) = false := beq_eq_false_iff_ne.mpr c57
            have c57b1 : (t164 != 6) = true := bne_iff_ne.mpr c57
            by_cases c61 : t164 = 7
            ·rw [if_pos c61] at H
             have c61b0 : (t164 == 7) = true := beq_iff_eq.mpr c61
             have c61b1 : (t164 != 7) = false := bne_eq_false_iff_eq.mpr c61
             clear c61
             have H' := Aside0.mk H
             clear H
             have hnb62 := NB155_143.out
             have hnc62 := NB143_155.out
             have hnb63 := NB155_0.out
             have hnc63 := NB0_155.out
             have hcz64_0 : w32.cell? ⟨gb155, 0, none⟩ = some (.int .i64 t144) := (blk_cell BK155.out 0).trans rfl
             have hcz64_1 : w32.cell? ⟨gb155, 1, none⟩ = some (.int .i64 t145) := (blk_cell BK155.out 1).trans rfl
             have hcz64_2 : w32.cell? ⟨gb155, 2, none⟩ = some (.int .i64 t146) := (blk_cell BK155.out 2).trans rfl
             have hcz64_3 : w32.cell? ⟨gb155, 3, none⟩ = some (.int .i64 t147) := (blk_cell BK155.out 3).trans rfl
             have hcz64_4 : w32.cell? ⟨gb155, 4, none⟩ = some (.int .i64 t148) := (blk_cell BK155.out 4).trans rfl
             have hcz64_5 : w32.cell? ⟨gb155, 5, none⟩ = some (.int .i64 t149) := (blk_cell BK155.out 5).trans rfl
             have hcz64_6 : w32.cell? ⟨gb155, 6, none⟩ = some (.int .i64 t150) := (blk_cell BK155.out 6).trans rfl
             have hcz64_7 : w32.cell? ⟨gb155, 7, none⟩ = some (.bool t151) := (blk_cell BK155.out 7).trans rfl
             have hcz64_8 : w32.cell? ⟨gb155, 8, none⟩ = some (.int .i64 t152) := (blk_cell BK155.out 8).trans rfl
             have hcz64_9 : w32.cell? ⟨gb155, 9, none⟩ = some (.int .i64 t153) := (blk_cell BK155.out 9).trans rfl
             have hfz64_0 := blk_frozen BK155.out 0
             have hfz64_1 := blk_frozen BK155.out 1
             have hfz64_2 := blk_frozen BK155.out 2
             have hfz64_3 := blk_frozen BK155.out 3
             have hfz64_4 := blk_frozen BK155.out 4
             have hfz64_5 := blk_frozen BK155.out 5
             have hfz64_6 := blk_frozen BK155.out 6
             have hfz64_7 := blk_frozen BK155.out 7
             have hfz64_8 := blk_frozen BK155.out 8
             have hfz64_9 := blk_frozen BK155.out 9
             go_wp2
             go_meet
             case rel => exact ⟨_, (t144), (t145), (t146), (t147), (t148), (t149), (t150), (wrap64 ((rd y158 t161) * 2)), (t153), H', ⟨by first | omega | exact Nat.le_refl _⟩, ⟨by (with_reducible repeat (first | refine blk_drewN ?_ _ | refine blk_drew ?_ | refine blk_alloc ?_ _)); refine blk_far ?_ NB143_155.out _; (with_reducible repeat (first | refine blk_drewN ?_ _ | refine blk_drew ?_ | refine blk_alloc ?_ _)); exact BK143.out⟩, ⟨by (with_reducible repeat (first | refine blk_drewN ?_ _ | refine blk_drew ?_ | refine blk_alloc ?_ _)); refine blk_put (cs := #[.int .i64 t144, .int .i64 t145, .int .i64 t146, .int .i64 t147, .int .i64 t148, .int .i64 t149, .int .i64 t150, .bool t151, .int .i64 t152, .int .i64 t153]) ?_ 8 _ rfl; (with_reducible repeat (first | refine blk_drewN ?_ _ | refine blk_drew ?_ | refine blk_alloc ?_ _)); exact BK155.out⟩, ⟨by repeat (first | (with_reducible first | exact HI0.out | apply IsS115.alloc | apply IsS115.drewN | apply IsS115.drew | apply IsS115.set_1 | refine IsS115.far ?_ NB0_143.out _ | refine IsS115.far ?_ NB0_155.out _) | exact HI0.out)⟩, ⟨by repeat (first | (with_reducible first | exact HK.out | apply KeepBut.set_ | apply keep_drewN | apply keep_drew | apply keep_alloc | refine keep_far ?_ GW143.out _ | refine keep_far ?_ GW155.out _) | exact HK.out)⟩, ⟨by repeat (first | (with_reducible first | exact HB.out | apply below_alloc | apply pw_below_drewN | apply below_drew1 | refine below_set ?_ (IsS115.ge HI0.out) | refine below_set ?_ GE143.out | refine below_set ?_ GE155.out) | exact HB.out)⟩⟩
            ·rw [if_neg c61] at H
             have c61b0 : (t164 == 7) = false := beq_eq_false_iff_ne.mpr c61
             have c61b1 : (t164 != 7) = true := bne_iff_ne.mpr c61
             have H' := Aside0.mk H
             clear H
             have hnb65 := NB155_143.out
             have hnc65 := NB143_155.out
             have hnb66 := NB155_0.out
             have hnc66 := NB0_155.out
             have hcz67_0 : w32.cell? ⟨gb155, 0, none⟩ = some (.int .i64 t144) := (blk_cell BK155.out 0).trans rfl
             have hcz67_1 : w32.cell? ⟨gb155, 1, none⟩ = some (.int .i64 t145) := (blk_cell BK155.out 1).trans rfl
             have hcz67_2 : w32.cell? ⟨gb155, 2, none⟩ = some (.int .i64 t146) := (blk_cell BK155.out 2).trans rfl
             have hcz67_3 : w32.cell? ⟨gb155, 3, none⟩ = some (.int .i64 t147) := (blk_cell BK155.out 3).trans rfl
             have hcz67_4 : w32.cell? ⟨gb155, 4, none⟩ = some (.int .i64 t148) := (blk_cell BK155.out 4).trans rfl
             have hcz67_5 : w32.cell? ⟨gb155, 5, none⟩ = some (.int .i64 t149) := (blk_cell BK155.out 5).trans rfl
             have hcz67_6 : w32.cell? ⟨gb155, 6, none⟩ = some (.int .i64 t150) := (blk_cell BK155.out 6).trans rfl
             have hcz67_7 : w32.cell? ⟨gb155, 7, none⟩ = some (.bool t151) := (blk_cell BK155.out 7).trans rfl
             have hcz67_8 : w32.cell? ⟨gb155, 8, none⟩ = some (.int .i64 t152) := (blk_cell BK155.out 8).trans rfl
             have hcz67_9 : w32.cell? ⟨gb155, 9, none⟩ = some (.int .i64 t153) := (blk_cell BK155.out 9).trans rfl
             have hfz67_0 := blk_frozen BK155.out 0
             have hfz67_1 := blk_frozen BK155.out 1
             have hfz67_2 := blk_frozen BK155.out 2
             have hfz67_3 := blk_frozen BK155.out 3
             have hfz67_4 := blk_frozen BK155.out 4
             have hfz67_5 := blk_frozen BK155.out 5
             have hfz67_6 := blk_frozen BK155.out 6
             have hfz67_7 := blk_frozen BK155.out 7
             have hfz67_8 := blk_frozen BK155.out 8
             have hfz67_9 := blk_frozen BK155.out 9
             go_wp2
             go_meet
             case rel => exact ⟨_, (t144), (t145), (t146), (t147), (t148), (t149), (t150), (t152), (rd y158 t161), H', ⟨by first | omega | exact Nat.le_refl _⟩, ⟨by (with_reducible repeat (first | refine blk_drewN ?_ _ | refine blk_drew ?_ | refine blk_alloc ?_ _)); refine blk_far ?_ NB143_155.out _; (with_reducible repeat (first | refine blk_drewN ?_ _ | refine blk_drew ?_ | refine blk_alloc ?_ _)); exact BK143.out⟩, ⟨by (with_reducible repeat (first | refine blk_drewN ?_ _ | refine blk_drew ?_ | refine blk_alloc ?_ _)); refine blk_put (cs := #[.int .i64 t144, .int .i64 t145, .int .i64 t146, .int .i64 t147, .int .i64 t148, .int .i64 t149, .int .i64 t150, .bool t151, .int .i64 t152, .int .i64 t153]) ?_ 9 _ rfl; (with_reducible repeat (first | refine blk_drewN ?_ _ | refine blk_drew ?_ | refine blk_alloc ?_ _)); exact BK155.out⟩, ⟨by repeat (first | (with_reducible first | exact HI0.out | apply IsS115.alloc | apply IsS115.drewN | apply IsS115.drew | apply IsS115.set_1 | refine IsS115.far ?_ NB0_143.out _ | refine IsS115.far ?_ NB0_155.out _) | exact HI0.out)⟩, ⟨by repeat (first | (with_reducible first | exact HK.out | apply KeepBut.set_ | apply keep_drewN | apply keep_drew | apply keep_alloc | refine keep_far ?_ GW143.out _ | refine keep_far ?_ GW155.out _) | exact HK.out)⟩, ⟨by repeat (first | (with_reducible first | exact HB.out | apply below_alloc | apply pw_below_drewN | apply below_drew1 | refine below_set ?_ (IsS115.ge HI0.out) | refine below_set ?_ GE143.out | refine below_set ?_ GE155.out) | exact HB.out)⟩⟩
    case rest =>
     clear HC20
     try clear c1
     try clear p1
     try clear q1
     try clear hx1
     try clear c2
     try clear p2
     try clear c3
     try clear c4
     try clear c5
     try clear c5b0
     try clear c6
     try clear p6
     try clear c7
     try clear c8
     try clear c9
     try clear c10
     try clear c14
     try clear p16
     try clear q16
     try clear hx16
     try clear c17
     try clear c17b0
     try clear c18
     try clear c18b0
     try clear c24
     try clear c25
     try clear c33
     try clear c33b0
     try clear c33b1
     try clear c34
     try clear c35
     try clear c37
     try clear c37b0
     try clear c37b1
     try clear c38
     try clear c39
     try clear c41
     try clear c41b0
     try clear c41b1
     try clear c42
     try clear c43
     try clear c45
     try clear c45b0
     try clear c45b1
     try clear c46
     try clear c47
     try clear c49
     try clear c49b0
     try clear c49b1
     try clear c50
     try clear c51
     try clear c53
     try clear c53b0
     try clear c53b1
     try clear c54
     try clear c55
     try clear c57
     try clear c57b0
     try clear c57b1
     try clear c58
     try clear c59
     try clear c61
     try clear c61b0
     try clear c61b1
     try clear c62
     try clear c63
     try clear p64
     try clear c65
     try clear c66
     try clear hcz11_0
     try clear hcz11_1
     try clear hcz11_2
     try clear hcz11_3
     try clear hcz11_4
     try clear hcz11_5
     try clear hcz11_6
     try clear hcz11_7
     try clear hcz11_8
     try clear hcz11_9
     try clear hcz13_0
     try clear hcz13_1
     try clear hcz13_2
     try clear hcz13_3
     try clear hcz13_4
     try clear hcz13_5
     try clear hcz13_6
     try clear hcz13_7
     try clear hcz13_8
     try clear hcz13_9
     try clear hcz15_0
     try clear hcz15_1
     try clear hcz15_2
     try clear hcz15_3
     try clear hcz15_4
     try clear hcz15_5
     try clear hcz15_6
     try clear hcz15_7
     try clear hcz15_8
     try clear hcz15_9
     try clear hcz26_0
     try clear hcz26_1
     try clear hcz26_2
     try clear hcz26_3
     try clear hcz26_4
     try clear hcz26_5
     try clear hcz26_6
     try clear hcz26_7
     try clear hcz26_8
     try clear hcz26_9
     try clear hcz36_0
     try clear hcz36_1
     try clear hcz36_2
     try clear hcz36_3
     try clear hcz36_4
     try clear hcz36_5
     try clear hcz36_6
     try clear hcz36_7
     try clear hcz36_8
     try clear hcz36_9
     try clear hcz40_0
     try clear hcz40_1
     try clear hcz40_2
     try clear hcz40_3
     try clear hcz40_4
     try clear hcz40_5
     try clear hcz40_6
     try clear hcz40_7
     try clear hcz40_8
     try clear hcz40_9
     try clear hcz44_0
     try clear hcz44_1
     try clear hcz44_2
     try clear hcz44_3
     try clear hcz44_4
     try clear hcz44_5
     try clear hcz44_6
     try clear hcz44_7
     try clear hcz44_8
     try clear hcz44_9
     try clear hcz48_0
     try clear hcz48_1
     try clear hcz48_2
     try clear hcz48_3
     try clear hcz48_4
     try clear hcz48_5
     try clear hcz48_6
     try clear hcz48_7
     try clear hcz48_8
     try clear hcz48_9
     try clear hcz52_0
     try clear hcz52_1
     try clear hcz52_2
     try clear hcz52_3
     try clear hcz52_4
     try clear hcz52_5
     try clear hcz52_6
     try clear hcz52_7
     try clear hcz52_8
     try clear hcz52_9
     try clear hcz56_0
     try clear hcz56_1
     try clear hcz56_2
     try clear hcz56_3
     try clear hcz56_4
     try clear hcz56_5
     try clear hcz56_6
     try clear hcz56_7
     try clear hcz56_8
     try clear hcz56_9
     try clear hcz60_0
     try clear hcz60_1
     try clear hcz60_2
     try clear hcz60_3
     try clear hcz60_4
     try clear hcz60_5
     try clear hcz60_6
     try clear hcz60_7
     try clear hcz60_8
     try clear hcz60_9
     try clear hcz64_0
     try clear hcz64_1
     try clear hcz64_2
     try clear hcz64_3
     try clear hcz64_4
     try clear hcz64_5
     try clear hcz64_6
     try clear hcz64_7
     try clear hcz64_8
     try clear hcz64_9
     try clear hcz67_0
     try clear hcz67_1
     try clear hcz67_2
     try clear hcz67_3
     try clear hcz67_4
     try clear hcz67_5
     try clear hcz67_6
     try clear hcz67_7
     try clear hcz67_8
     try clear hcz67_9
     try clear hfz11_0
     try clear hfz11_1
     try clear hfz11_2
     try clear hfz11_3
     try clear hfz11_4
     try clear hfz11_5
     try clear hfz11_6
     try clear hfz11_7
     try clear hfz11_8
     try clear hfz11_9
     try clear hfz13_0
     try clear hfz13_1
     try clear hfz13_2
     try clear hfz13_3
     try clear hfz13_4
     try clear hfz13_5
     try clear hfz13_6
     try clear hfz13_7
     try clear hfz13_8
     try clear hfz13_9
     try clear hfz15_0
     try clear hfz15_1
     try clear hfz15_2
     try clear hfz15_3
     try clear hfz15_4
     try clear hfz15_5
     try clear hfz15_6
     try clear hfz15_7
     try clear hfz15_8
     try clear hfz15_9
     try clear hfz26_0
     try clear hfz26_1
     try clear hfz26_2
     try clear hfz26_3
     try clear hfz26_4
     try clear hfz26_5
     try clear hfz26_6
     try clear hfz26_7
     try clear hfz26_8
     try clear hfz26_9
     try clear hfz36_0
     try clear hfz36_1
     try clear hfz36_2
     try clear hfz36_3
     try clear hfz36_4
     try clear hfz36_5
     try clear hfz36_6
     try clear hfz36_7
     try clear hfz36_8
     try clear hfz36_9
     try clear hfz40_0
     try clear hfz40_1
     try clear hfz40_2
     try clear hfz40_3
     try clear hfz40_4
     try clear hfz40_5
     try clear hfz40_6
     try clear hfz40_7
     try clear hfz40_8
     try clear hfz40_9
     try clear hfz44_0
     try clear hfz44_1
     try clear hfz44_2
     try clear hfz44_3
     try clear hfz44_4
     try clear hfz44_5
     try clear hfz44_6
     try clear hfz44_7
     try clear hfz44_8
     try clear hfz44_9
     try clear hfz48_0
     try clear hfz48_1
     try clear hfz48_2
     try clear hfz48_3
     try clear hfz48_4
     try clear hfz48_5
     try clear hfz48_6
     try clear hfz48_7
     try clear hfz48_8
     try clear hfz48_9
     try clear hfz52_0
     try clear hfz52_1
     try clear hfz52_2
     try clear hfz52_3
     try clear hfz52_4
     try clear hfz52_5
     try clear hfz52_6
     try clear hfz52_7
     try clear hfz52_8
     try clear hfz52_9
     try clear hfz56_0
     try clear hfz56_1
     try clear hfz56_2
     try clear hfz56_3
     try clear hfz56_4
     try clear hfz56_5
     try clear hfz56_6
     try clear hfz56_7
     try clear hfz56_8
     try clear hfz56_9
     try clear hfz60_0
     try clear hfz60_1
     try clear hfz60_2
     try clear hfz60_3
     try clear hfz60_4
     try clear hfz60_5
     try clear hfz60_6
     try clear hfz60_7
     try clear hfz60_8
     try clear hfz60_9
     try clear hfz64_0
     try clear hfz64_1
     try clear hfz64_2
     try clear hfz64_3
     try clear hfz64_4
     try clear hfz64_5
     try clear hfz64_6
     try clear hfz64_7
     try clear hfz64_8
     try clear hfz64_9
     try clear hfz67_0
     try clear hfz67_1
     try clear hfz67_2
     try clear hfz67_3
     try clear hfz67_4
     try clear hfz67_5
     try clear hfz67_6
     try clear hfz67_7
     try clear hfz67_8
     try clear hfz67_9
     try clear hx163_0
     try clear p163
     try clear q163
     obtain ⟨kq, x156000_19, x156001_19, x156002_19, x156003_19, x156004_19, x156005_19, x156006_19, x156008_19, x156009_19, HA, HJ19, BK143, BK155, HI0, HK, HB⟩ := hcut
     cases kq with
     | zero => exact absurd HA.out (by simp [spec_l20AnyJob.j0])
     | succ kj19 =>
      have H := HA.out
      clear HA
      simp only [spec_l20AnyJob.j0] at H
      simp only [Option.some.injEq, Prod.mk.injEq] at H
      obtain ⟨rfl, rfl, rfl, rfl, rfl, rfl, rfl, rfl, rfl, rfl, rfl⟩ := H
      have hnb68 := NB155_143.out
      have hnc68 := NB143_155.out
      have hnb69 := NB155_0.out
      have hnc69 := NB0_155.out
      have hcz70_0 : wc.cell? ⟨gb155, 0, none⟩ = some (.int .i64 x156000_19) := (blk_cell BK155.out 0).trans rfl
      have hcz70_1 : wc.cell? ⟨gb155, 1, none⟩ = some (.int .i64 x156001_19) := (blk_cell BK155.out 1).trans rfl
      have hcz70_2 : wc.cell? ⟨gb155, 2, none⟩ = some (.int .i64 x156002_19) := (blk_cell BK155.out 2).trans rfl
      have hcz70_3 : wc.cell? ⟨gb155, 3, none⟩ = some (.int .i64 x156003_19) := (blk_cell BK155.out 3).trans rfl
      have hcz70_4 : wc.cell? ⟨gb155, 4, none⟩ = some (.int .i64 x156004_19) := (blk_cell BK155.out 4).trans rfl
      have hcz70_5 : wc.cell? ⟨gb155, 5, none⟩ = some (.int .i64 x156005_19) := (blk_cell BK155.out 5).trans rfl
      have hcz70_6 : wc.cell? ⟨gb155, 6, none⟩ = some (.int .i64 x156006_19) := (blk_cell BK155.out 6).trans rfl
      have hcz70_7 : wc.cell? ⟨gb155, 7, none⟩ = some (.bool t151) := (blk_cell BK155.out 7).trans rfl
      have hcz70_8 : wc.cell? ⟨gb155, 8, none⟩ = some (.int .i64 x156008_19) := (blk_cell BK155.out 8).trans rfl
      have hcz70_9 : wc.cell? ⟨gb155, 9, none⟩ = some (.int .i64 x156009_19) := (blk_cell BK155.out 9).trans rfl
      have hfz70_0 := blk_frozen BK155.out 0
      have hfz70_1 := blk_frozen BK155.out 1
      have hfz70_2 := blk_frozen BK155.out 2
      have hfz70_3 := blk_frozen BK155.out 3
      have hfz70_4 := blk_frozen BK155.out 4
      have hfz70_5 := blk_frozen BK155.out 5
      have hfz70_6 := blk_frozen BK155.out 6
      have hfz70_7 := blk_frozen BK155.out 7
      have hfz70_8 := blk_frozen BK155.out 8
      have hfz70_9 := blk_frozen BK155.out 9
      have hnb71 := NB143_0.out
      have hnc71 := NB0_143.out
      have hcz72_0 : wc.cell? ⟨gb143, 0, none⟩ = some (.int .i64 0) := (blk_cell BK143.out 0).trans rfl
      have hcz72_1 : wc.cell? ⟨gb143, 1, none⟩ = some (.int .i64 0) := (blk_cell BK143.out 1).trans rfl
      have hcz72_2 : wc.cell? ⟨gb143, 2, none⟩ = some (.int .i64 0) := (blk_cell BK143.out 2).trans rfl
      have hcz72_3 : wc.cell? ⟨gb143, 3, none⟩ = some (.int .i64 0) := (blk_cell BK143.out 3).trans rfl
      have hcz72_4 : wc.cell? ⟨gb143, 4, none⟩ = some (.int .i64 0) := (blk_cell BK143.out 4).trans rfl
      have hcz72_5 : wc.cell? ⟨gb143, 5, none⟩ = some (.int .i64 0) := (blk_cell BK143.out 5).trans rfl
      have hcz72_6 : wc.cell? ⟨gb143, 6, none⟩ = some (.int .i64 0) := (blk_cell BK143.out 6).trans rfl
      have hcz72_7 : wc.cell? ⟨gb143, 7, none⟩ = some (.bool false) := (blk_cell BK143.out 7).trans rfl
      have hcz72_8 : wc.cell? ⟨gb143, 8, none⟩ = some (.int .i64 0) := (blk_cell BK143.out 8).trans rfl
      have hcz72_9 : wc.cell? ⟨gb143, 9, none⟩ = some (.int .i64 0) := (blk_cell BK143.out 9).trans rfl
      have hfz72_0 := blk_frozen BK143.out 0
      have hfz72_1 := blk_frozen BK143.out 1
      have hfz72_2 := blk_frozen BK143.out 2
      have hfz72_3 := blk_frozen BK143.out 3
      have hfz72_4 := blk_frozen BK143.out 4
      have hfz72_5 := blk_frozen BK143.out 5
      have hfz72_6 := blk_frozen BK143.out 6
      have hfz72_7 := blk_frozen BK143.out 7
      have hfz72_8 := blk_frozen BK143.out 8
      have hfz72_9 := blk_frozen BK143.out 9
      go_wp2
      refine bodyPost_ret (results_cell_row rfl _ _ gb143 50 #[.int .i64 x156000_19, .int .i64 x156001_19, .int .i64 x156002_19, .int .i64 x156003_19, .int .i64 x156004_19, .int .i64 x156005_19, .int .i64 x156006_19, .bool t151, .int .i64 x156008_19, .int .i64 x156009_19] (0, 0) _ rfl (by (with_reducible repeat (first | refine blk_drewN ?_ _ | refine blk_drew ?_ | refine blk_alloc ?_ _)); refine blk_put (cs := #[.int .i64 x156000_19, .int .i64 x156001_19, .int .i64 x156002_19, .int .i64 x156003_19, .int .i64 x156004_19, .int .i64 x156005_19, .int .i64 x156006_19, .bool t151, .int .i64 x156008_19, .int .i64 0]) ?_ 9 _ rfl; (with_reducible repeat (first | refine blk_drewN ?_ _ | refine blk_drew ?_ | refine blk_alloc ?_ _)); refine blk_put (cs := #[.int .i64 x156000_19, .int .i64 x156001_19, .int .i64 x156002_19, .int .i64 x156003_19, .int .i64 x156004_19, .int .i64 x156005_19, .int .i64 x156006_19, .bool t151, .int .i64 0, .int .i64 0]) ?_ 8 _ rfl; (with_reducible repeat (first | refine blk_drewN ?_ _ | refine blk_drew ?_ | refine blk_alloc ?_ _)); refine blk_put (cs := #[.int .i64 x156000_19, .int .i64 x156001_19, .int .i64 x156002_19, .int .i64 x156003_19, .int .i64 x156004_19, .int .i64 x156005_19, .int .i64 x156006_19, .bool false, .int .i64 0, .int .i64 0]) ?_ 7 _ rfl; (with_reducible repeat (first | refine blk_drewN ?_ _ | refine blk_drew ?_ | refine blk_alloc ?_ _)); refine blk_put (cs := #[.int .i64 x156000_19, .int .i64 x156001_19, .int .i64 x156002_19, .int .i64 x156003_19, .int .i64 x156004_19, .int .i64 x156005_19, .int .i64 0, .bool false, .int .i64 0, .int .i64 0]) ?_ 6 _ rfl; (with_reducible repeat (first | refine blk_drewN ?_ _ | refine blk_drew ?_ | refine blk_alloc ?_ _)); refine blk_put (cs := #[.int .i64 x156000_19, .int .i64 x156001_19, .int .i64 x156002_19, .int .i64 x156003_19, .int .i64 x156004_19, .int .i64 0, .int .i64 0, .bool false, .int .i64 0, .int .i64 0]) ?_ 5 _ rfl; (with_reducible repeat (first | refine blk_drewN ?_ _ | refine blk_drew ?_ | refine blk_alloc ?_ _)); refine blk_put (cs := #[.int .i64 x156000_19, .int .i64 x156001_19, .int .i64 x156002_19, .int .i64 x156003_19, .int .i64 0, .int .i64 0, .int .i64 0, .bool false, .int .i64 0, .int .i64 0]) ?_ 4 _ rfl; (with_reducible repeat (first | refine blk_drewN ?_ _ | refine blk_drew ?_ | refine blk_alloc ?_ _)); refine blk_put (cs := #[.int .i64 x156000_19, .int .i64 x156001_19, .int .i64 x156002_19, .int .i64 0, .int .i64 0, .int .i64 0, .int .i64 0, .bool false, .int .i64 0, .int .i64 0]) ?_ 3 _ rfl; (with_reducible repeat (first | refine blk_drewN ?_ _ | refine blk_drew ?_ | refine blk_alloc ?_ _)); refine blk_put (cs := #[.int .i64 x156000_19, .int .i64 x156001_19, .int .i64 0, .int .i64 0, .int .i64 0, .int .i64 0, .int .i64 0, .bool false, .int .i64 0, .int .i64 0]) ?_ 2 _ rfl; (with_reducible repeat (first | refine blk_drewN ?_ _ | refine blk_drew ?_ | refine blk_alloc ?_ _)); refine blk_put (cs := #[.int .i64 x156000_19, .int .i64 0, .int .i64 0, .int .i64 0, .int .i64 0, .int .i64 0, .int .i64 0, .bool false, .int .i64 0, .int .i64 0]) ?_ 1 _ rfl; (with_reducible repeat (first | refine blk_drewN ?_ _ | refine blk_drew ?_ | refine blk_alloc ?_ _)); refine blk_put (cs := #[.int .i64 0, .int .i64 0, .int .i64 0, .int .i64 0, .int .i64 0, .int .i64 0, .int .i64 0, .bool false, .int .i64 0, .int .i64 0]) ?_ 0 _ rfl; (with_reducible repeat (first | refine blk_drewN ?_ _ | refine blk_drew ?_ | refine blk_alloc ?_ _)); exact BK143.out) Try.underlying50 rfl (by kernel_rfl)) rfl ?_
      exact ⟨by first | rfl | (simp [errW_none, errW_some] <;> rfl) | (simp [*, errW_none, errW_some] <;> rfl), by repeat (first | (with_reducible first | exact HI0.out | apply IsS115.alloc | apply IsS115.drewN | apply IsS115.drew | apply IsS115.set_1 | refine IsS115.far ?_ NB0_143.out _ | refine IsS115.far ?_ NB0_155.out _) | exact HI0.out), by repeat (first | (with_reducible first | exact HB.out | apply below_alloc | apply pw_below_drewN | apply below_drew1 | refine below_set ?_ (IsS115.ge HI0.out) | refine below_set ?_ GE143.out | refine below_set ?_ GE155.out) | exact HB.out), by repeat (first | (with_reducible first | exact HK.out | apply KeepBut.set_ | apply keep_drewN | apply keep_drew | apply keep_alloc | refine keep_far ?_ GW143.out _ | refine keep_far ?_ GW155.out _) | exact HK.out)⟩
   ·rw [if_neg c18] at H
    exact absurd H (by simp)
  ·rw [if_neg c17] at H
   exact absurd H (by simp)

end Go.Proofs.Ytkmckalckafloaa.PFnWinStep
-- thin
