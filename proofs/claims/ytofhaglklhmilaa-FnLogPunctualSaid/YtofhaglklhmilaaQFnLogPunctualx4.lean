/- Functions of the program as Lean functions, with their contracts, written by a program of mine over the kit's printer and in part by hand. No condition of its own. -/
import Derived.Test.YtofhaglklhmilaaQFnLogPunctualx0
import Derived.Test.YtofhaglklhmilaaQFnLogPunctualx1
import Derived.Test.YtofhaglklhmilaaQFnLogPunctualx3
namespace Go.Proofs.Ytofhaglklhmilaa.PFnLogPunctual
open Go.RowKit Go.Proofs.YtofhaglklhmilaaW.PrintWords Go.Proofs.YtofhaglklhmilaaW.PrintLast Go.Proofs.YtofhaglklhmilaaW.PrintMore
attribute [local go_sem] max2_int min2_int max_two min_two max_three min_three max_four min_four   -- for this text's walks alone
set_option linter.unusedVariables false
set_option linter.unusedSimpArgs false

/-! ### spec_DrawLogPunctual: function 10 -/
mutual
def spec_DrawLogPunctual.j0 : Nat → List (S47) → Bool → List Int → Int → Option ((List (S47)) × Int)
  | 0, _, _, _, _ => none
  | k + 1, x5, x17, x273000, x273001 => if x17 = true then ((spec_l20Rd_pick.f k x273000 x273001 (x5.length : Int)).bind fun bt279 => ((some (([9223372036854775807, (-9223372036854775808)] : List Int) : List Int)).bind fun y281 => ((spec_l20Rd_pick.f k x273000 bt279.2 2).bind fun bt284 => (if 0 ≤ bt284.1 then (if bt284.1 < (y281.length : Int) then (if 0 ≤ bt279.1 then (if bt279.1 < (x5.length : Int) then (spec_DrawLogPunctual.j1 k (x5.set (bt279.1 : Int).toNat (⟨(rd_T47 x5 bt279.1).f0, rd y281 bt284.1, (rd_T47 x5 bt279.1).f2, (rd_T47 x5 bt279.1).f3, (rd_T47 x5 bt279.1).f4⟩ : S47)) x273000 bt284.2) else (none)) else (none)) else (none)) else (none))))) else (spec_DrawLogPunctual.j1 k x5 x273000 x273001)
def spec_DrawLogPunctual.j1 : Nat → List (S47) → List Int → Int → Option ((List (S47)) × Int)
  | 0, _, _, _ => none
  | k + 1, x5, x273000, x273001 => (spec_l20Rd_pick.f k x273000 x273001 14).bind fun bt288 => ((spec_l20Rd_pick.f k x273000 bt288.2 14).bind fun bt290 => ((spec_l20Rd_pick.f k x273000 bt290.2 14).bind fun bt292 => ((spec_l20Rd_pick.f k x273000 bt292.2 14).bind fun bt294 => ((some (([bt288.1, bt290.1, bt292.1, bt294.1, 1000, 1001, (-1), (-9223372036854775808)] : List Int) : List Int)).bind fun y296 => ((spec_l20Rd_pick.f k x273000 bt294.2 8).bind fun bt299 => (if 0 ≤ bt299.1 then (if bt299.1 < (y296.length : Int) then (some (x5, rd y296 bt299.1)) else (none)) else (none)))))))
end
def spec_DrawLogPunctual.f (k : Nat) (l0 : List Int) : Option ((List (S47)) × Int) := (spec_l20Open.f l0).bind fun bt270 => ((spec_l20AnyLog.f k bt270.1 bt270.2 8).bind fun bt273 => (if (bt273.1.length : Int) > 0 then ((spec_l20Rd_pick.f k bt270.1 bt273.2 12).bind fun bt277 => (spec_DrawLogPunctual.j0 k bt273.1 (bt277.1 == 0) bt270.1 bt277.2)) else (spec_DrawLogPunctual.j0 k bt273.1 false bt270.1 bt273.2)))
theorem spec_DrawLogPunctual.mono_l : ∀ k, (∀ y0 y1 y2 y3, LeO (spec_DrawLogPunctual.j0 k y0 y1 y2 y3) (spec_DrawLogPunctual.j0 (k + 1) y0 y1 y2 y3)) ∧ (∀ y0 y1 y2, LeO (spec_DrawLogPunctual.j1 k y0 y1 y2) (spec_DrawLogPunctual.j1 (k + 1) y0 y1 y2))
  | 0 => ⟨fun _ _ _ _ r h => by simp [spec_DrawLogPunctual.j0] at h, fun _ _ _ r h => by simp [spec_DrawLogPunctual.j1] at h⟩
  | k + 1 => by
    obtain ⟨ih0, ih1⟩ := spec_DrawLogPunctual.mono_l k
    refine ⟨?_, ?_⟩
    · intro y0 y1 y2 y3
      unfold spec_DrawLogPunctual.j0
      repeat' first
      | (with_reducible exact ih0 _ _ _ _)
      | (with_reducible exact ih1 _ _ _)
      | (with_reducible exact spec_l20AnyLog.mono _ _ _ _)
      | (with_reducible exact spec_l20Rd_pick.mono _ _ _ _)
      | (with_reducible exact LeO.refl _)
      | (with_reducible exact LeO.none _)
      | (with_reducible refine LeO.ite ?_ ?_)
      | (with_reducible refine LeO.bind ?_ (fun _ => ?_))
      | exact ih0 _ _ _ _
      | exact ih1 _ _ _
      | exact spec_l20AnyLog.mono _ _ _ _
      | exact spec_l20Rd_pick.mono _ _ _ _
      | exact LeO.none _
      | refine LeO.ite ?_ ?_
      | refine LeO.bind ?_ (fun _ => ?_)
    · intro y0 y1 y2
      unfold spec_DrawLogPunctual.j1
      repeat' first
      | (with_reducible exact ih0 _ _ _ _)
      | (with_reducible exact ih1 _ _ _)
      | (with_reducible exact spec_l20AnyLog.mono _ _ _ _)
      | (with_reducible exact spec_l20Rd_pick.mono _ _ _ _)
      | (with_reducible exact LeO.refl _)
      | (with_reducible exact LeO.none _)
      | (with_reducible refine LeO.ite ?_ ?_)
      | (with_reducible refine LeO.bind ?_ (fun _ => ?_))
      | exact ih0 _ _ _ _
      | exact ih1 _ _ _
      | exact spec_l20AnyLog.mono _ _ _ _
      | exact spec_l20Rd_pick.mono _ _ _ _
      | exact LeO.none _
      | refine LeO.ite ?_ ?_
      | refine LeO.bind ?_ (fun _ => ?_)
theorem spec_DrawLogPunctual.mono : ∀ a0 k, LeO (spec_DrawLogPunctual.f k a0) (spec_DrawLogPunctual.f (k + 1) a0) := by
  intro a0 k
  obtain ⟨ih0, ih1⟩ := spec_DrawLogPunctual.mono_l k
  unfold spec_DrawLogPunctual.f
  repeat' first
      | (with_reducible exact ih0 _ _ _ _)
      | (with_reducible exact ih1 _ _ _)
      | (with_reducible exact spec_l20AnyLog.mono _ _ _ _)
      | (with_reducible exact spec_l20Rd_pick.mono _ _ _ _)
      | (with_reducible exact LeO.refl _)
      | (with_reducible exact LeO.none _)
      | (with_reducible refine LeO.ite ?_ ?_)
      | (with_reducible refine LeO.bind ?_ (fun _ => ?_))
      | exact ih0 _ _ _ _
      | exact ih1 _ _ _
      | exact spec_l20AnyLog.mono _ _ _ _
      | exact spec_l20Rd_pick.mono _ _ _ _
      | exact LeO.none _
      | refine LeO.ite ?_ ?_
      | refine LeO.bind ?_ (fun _ => ?_)
def spec_DrawLogPunctual.T5 : Bool × List (List Nat × List Nat) := (true, [([], []), ([], []), ([1], [1]), ([], []), ([3, 2], [3]), ([], []), ([5, 4], [5]), ([], []), ([7, 6], [7]), ([2, 4, 6, 8], [2, 4, 6, 8]), ([], []), ([10, 8], [10]), ([9, 11], [9, 11]), ([12], [12]), ([0, 11, 0], [0]), ([13, 14, 0, 1, 2, 3, 4, 5, 6, 7, 8, 9, 10, 11, 12, 13, 14], [13])])
def spec_DrawLogPunctual.B5 : List Nat := [0, 0, 2, 0, 14, 0, 62, 0, 254, 510, 0, 1534, 4094, 8190, 3583, 32767]
theorem spec_DrawLogPunctual.tab5 : rtab .any (opsOf Try.f10 5) = spec_DrawLogPunctual.T5 := by kernel_rfl
theorem spec_DrawLogPunctual.bits5 : waitsOk spec_DrawLogPunctual.T5.2 spec_DrawLogPunctual.B5 = true := by kernel_rfl
set_option maxHeartbeats 8000000 in
set_option maxRecDepth 100000 in
theorem spec_DrawLogPunctual.calls (k : Nat) (A0 : Option Addr) (c0 : Nat) (l0 : List Int) (r1 : List (S47)) (r2 : Int) (w : World) (hr0 : Kd.C (Kd.int .u8) w A0 l0.length l0) (hc0 : l0.length ≤ c0) (h : spec_DrawLogPunctual.f k l0 = some (r1, r2)) :
    Calls Try.prog 10 #[.slice A0 l0.length c0] w fun e w' => ∃ v0_ : Value, e = .returned (.tuple #[v0_, .int .i64 r2]) ∧ Kd.R k47 47 w' w.heap.size (fun _ => True) v0_ r1 ∧ Below w.heap.size w w' := by
  have HR0 := Aside0.mk hr0
  have HC0 := Aside0.mk hc0
  clear hr0 hc0
  have HB := Aside0.mk (Below.refl w.heap.size w)
  have H : ((spec_l20Open.f l0).bind fun bt270 => ((spec_l20AnyLog.f k bt270.1 bt270.2 8).bind fun bt273 => (if (bt273.1.length : Int) > 0 then ((spec_l20Rd_pick.f k bt270.1 bt273.2 12).bind fun bt277 => (spec_DrawLogPunctual.j0 k bt273.1 (bt277.1 == 0) bt270.1 bt277.2)) else (spec_DrawLogPunctual.j0 k bt273.1 false bt270.1 bt273.2)))) = some (r1, r2) := h
  clear h
  replace H := Option.bind_eq_some_iff.mp H
  obtain ⟨⟨t270, t271⟩, A20, H⟩ := H
  replace H : ((spec_l20AnyLog.f k t270 t271 8).bind fun bt273 => (if (bt273.1.length : Int) > 0 then ((spec_l20Rd_pick.f k t270 bt273.2 12).bind fun bt277 => (spec_DrawLogPunctual.j0 k bt273.1 (bt277.1 == 0) t270 bt277.2)) else (spec_DrawLogPunctual.j0 k bt273.1 false t270 bt273.2))) = some (r1, r2) := H
  have A2 := Aside0.mk A20
  clear A20
  replace H := Option.bind_eq_some_iff.mp H
  obtain ⟨⟨t273, t276⟩, A30, H⟩ := H
  replace H : (if (t273.length : Int) > 0 then ((spec_l20Rd_pick.f k t270 t276 12).bind fun bt277 => (spec_DrawLogPunctual.j0 k t273 (bt277.1 == 0) t270 bt277.2)) else (spec_DrawLogPunctual.j0 k t273 false t270 t276)) = some (r1, r2) := H
  have A3 := Aside0.mk A30
  clear A30
  have HC4 := Aside0.mk H
  clear H
  go_enter Try.func10, Try.ntmps10
  go_upto_region 3 with (first | ((with_reducible refine gate_callee (f := 51) rfl ?_); refine goesL_ (some 7) rfl rfl Try.func51 (by kernel_rfl) rfl #[.slice A0 l0.length c0] rfl (by (try simp only [List.map_toArray, List.map_cons, List.map_nil]); first | done | rfl | (simp only [List.length_drop, List.length_take]; rfl)) ?_; (with_reducible refine (spec_l20Open.calls _ _ l0 t270 t271 w _ ?side1 ?side2 ?side3 A2.out).mono ?_); (case side1 => repeat (first | (with_reducible first | exact HB.out | apply below_alloc | apply pw_below_drewN | apply below_drew1) | exact HB.out)); (case side2 => exact HR0.out); (case side3 => exact HC0.out); rintro e w5 ⟨g272, rfl, hi, hb, hb2⟩; refine ⟨_, rfl, ?_⟩; have n0_ := Aside0.mk (hb); have n1_ := Aside0.mk (hi); clear HB; have HB := n0_; have HI272 := n1_; clear n0_ n1_; (try clear hb); (try clear hb2); (try clear hk); (try clear hi)) | ((with_reducible refine gate_callee (f := 52) rfl ?_); refine goesL_ (some 9) rfl rfl Try.func52 (by kernel_rfl) rfl #[.pointer (some ⟨g272, 0, none⟩), .int .i64 8] rfl (by (try simp only [List.map_toArray, List.map_cons, List.map_nil]); first | done | rfl | (simp only [List.length_drop, List.length_take]; rfl)) ?_; (with_reducible refine (spec_l20AnyLog.calls k g272 t270 t271 8 t273 t276 w _ ?side1 ?side2 A3.out).mono ?_); (case side1 => repeat (first | (with_reducible first | exact HI272.out | apply IsS105.alloc | apply IsS105.drewN | apply IsS105.drew | apply IsS105.set_1) | exact HI272.out)); (case side2 => repeat (first | (with_reducible first | exact HB.out | apply below_alloc | apply pw_below_drewN | apply below_drew1 | refine below_set ?_ (IsS105.ge HI272.out)) | exact HB.out)); rintro e w6 ⟨v274, rfl, ho0, hi, hb, hk⟩; refine ⟨_, rfl, ?_⟩; have n0_ := Aside0.mk (Kd.R_lower ho0 (below_size (by repeat (first | (with_reducible first | exact HB.out | apply below_alloc | apply pw_below_drewN | apply below_drew1 | refine below_set ?_ (IsS105.ge HI272.out)) | exact HB.out)))); have n1_ := Aside0.mk (hb); have n2_ := Aside0.mk (hi); clear HB; clear HI272; have HO275 := n0_; have HB := n1_; have HI272 := n2_; clear n0_ n1_ n2_; (try clear hb); (try clear hb2); (try clear hk); (try clear hi); (try clear ho0)))
  (try simp only [Act.put, List.setIfInBounds_toArray, List.set_cons_zero, List.set_cons_succ])
  go_cut [17] (fun v17 wc => ∃ (kq : Nat) (x17_3 : Bool) (x273001_3 : Int), v17 = .bool x17_3 ∧ Aside0 (spec_DrawLogPunctual.j0 kq t273 x17_3 t270 x273001_3 = some (r1, r2)) ∧ Aside0 (kq ≤ k) ∧ Aside0 (Kd.R k47 47 wc w.heap.size (fun _ => True) v274 t273) ∧ Aside0 (IsS105 w wc g272 t270 x273001_3) ∧ Aside0 (Below w.heap.size w wc))
  case first =>
    have H := HC4.out
    clear HC4
    by_cases c7 : (t273.length : Int) > 0
    · rw [if_pos c7] at H
      have c7b0 : decide (0 < (t273.length : Int)) = true := decide_eq_true c7
      have c7b1 : decide (0 < t273.length) = true := decide_eq_true (by omega)
      clear c7
      (first | rw [c7b0] | (simp only [i64_w, i32_w]; rw [c7b0]) | skip)
      replace H := Option.bind_eq_some_iff.mp H
      obtain ⟨⟨t277, t278⟩, A80, H⟩ := H
      replace H : (spec_DrawLogPunctual.j0 k t273 (t277 == 0) t270 t278) = some (r1, r2) := H
      have A8 := Aside0.mk A80
      clear A80
      have H' := Aside0.mk H
      clear H
      obtain ⟨Ao9, co9, eo9⟩ := Kd.R_slice HO275.out
      subst eo9
      go_wp2_with (first | (go_at_call 53; (with_reducible refine (spec_l20Rd_pick.calls k g272 t270 t276 12 t277 t278 w _ ?side1 ?side2 A8.out).mono ?_); (case side1 => repeat (first | (with_reducible first | exact HI272.out | apply IsS105.alloc | apply IsS105.drewN | apply IsS105.drew | apply IsS105.set_1) | exact HI272.out)); (case side2 => repeat (first | (with_reducible first | exact HB.out | apply below_alloc | apply pw_below_drewN | apply below_drew1 | refine below_set ?_ (IsS105.ge HI272.out)) | exact HB.out)); rintro e w10 ⟨rfl, hi, hb, hk⟩; have n0_ := Aside0.mk (Kd.R_mono (Kd.R_keep (IsS105.apart (show IsS105 w _ g272 t270 t276 from by repeat (first | (with_reducible first | exact HI272.out | apply IsS105.alloc | apply IsS105.drewN | apply IsS105.drew | apply IsS105.set_1) | exact HI272.out)) (by (with_reducible repeat (first | apply Kd.R_alloc | apply Kd.R_drewN | apply Kd.R_drew)); exact HO275.out) (by decide)) hk (fun _ h => h.2)) (fun _ h => h.1)); have n1_ := Aside0.mk (hb); have n2_ := Aside0.mk (hi); clear HO275; clear HB; clear HI272; have HO275 := n0_; have HB := n1_; have HI272 := n2_; clear n0_ n1_ n2_; (try clear hb); (try clear hb2); (try clear hk); (try clear hi)))
      go_meet
      case rel => exact ⟨_, ((t277 == 0)), (t278), (by first | rfl | (simp; done) | (simp [*]; done)), H', ⟨by first | omega | exact Nat.le_refl _⟩, ⟨by (with_reducible repeat (first | apply Kd.R_alloc | apply Kd.R_drewN | apply Kd.R_drew)); exact HO275.out⟩, ⟨by repeat (first | (with_reducible first | exact HI272.out | apply IsS105.alloc | apply IsS105.drewN | apply IsS105.drew | apply IsS105.set_1) | exact HI272.out)⟩, ⟨by repeat (first | (with_reducible first | exact HB.out | apply below_alloc | apply pw_below_drewN | apply below_drew1 | refine below_set ?_ (IsS105.ge HI272.out)) | exact HB.out)⟩⟩
    · rw [if_neg c7] at H
      have c7b0 : decide (0 < (t273.length : Int)) = false := decide_eq_false c7
      have c7b1 : decide (0 < t273.length) = false := decide_eq_false (by omega)
      clear c7
      (first | rw [c7b0] | (simp only [i64_w, i32_w]; rw [c7b0]) | skip)
      have H' := Aside0.mk H
      clear H
      obtain ⟨Ao11, co11, eo11⟩ := Kd.R_slice HO275.out
      subst eo11
      go_wp2
      go_meet
      case rel => exact ⟨_, (false), (t276), (by first | rfl | (simp; done) | (simp [*]; done)), H', ⟨by first | omega | exact Nat.le_refl _⟩, ⟨by (with_reducible repeat (first | apply Kd.R_alloc | apply Kd.R_drewN | apply Kd.R_drew)); exact HO275.out⟩, ⟨by repeat (first | (with_reducible first | exact HI272.out | apply IsS105.alloc | apply IsS105.drewN | apply IsS105.drew | apply IsS105.set_1) | exact HI272.out)⟩, ⟨by repeat (first | (with_reducible first | exact HB.out | apply below_alloc | apply pw_below_drewN | apply below_drew1 | refine below_set ?_ (IsS105.ge HI272.out)) | exact HB.out)⟩⟩
  case rest =>
    clear HC4
    try clear c1
    try clear p2
    try clear c5
    try clear c7
    try clear c7b0
    try clear c7b1
    try clear c10
    obtain ⟨kq, x17_3, x273001_3, rfl, HA, HJ3, HO_5, HI272, HB⟩ := hcut
    cases kq with
    | zero => exact absurd HA.out (by simp [spec_DrawLogPunctual.j0])
    | succ kj3 =>
      have H := HA.out
      clear HA
      simp only [spec_DrawLogPunctual.j0] at H
      have HC12 := Aside0.mk H
      clear H
      go_upto_if 17 with (fail)
      go_cut [] (fun wc => ∃ (kq : Nat) (x5_11 : List (S47)) (x273001_11 : Int), Aside0 (spec_DrawLogPunctual.j1 kq x5_11 t270 x273001_11 = some (r1, r2)) ∧ Aside0 (kq ≤ kj3) ∧ Aside0 (Kd.R k47 47 wc w.heap.size (fun _ => True) v274 x5_11) ∧ Aside0 (IsS105 w wc g272 t270 x273001_11) ∧ Aside0 (Below w.heap.size w wc))
      case first =>
        have H := HC12.out
        clear HC12
        by_cases c13 : x17_3 = true
        · subst c13
          have H1 : ((spec_l20Rd_pick.f kj3 t270 x273001_3 (t273.length : Int)).bind fun bt279 => ((some (([9223372036854775807, (-9223372036854775808)] : List Int) : List Int)).bind fun y281 => ((spec_l20Rd_pick.f kj3 t270 bt279.2 2).bind fun bt284 => (if 0 ≤ bt284.1 then (if bt284.1 < (y281.length : Int) then (if 0 ≤ bt279.1 then (if bt279.1 < (t273.length : Int) then (spec_DrawLogPunctual.j1 kj3 (t273.set (bt279.1 : Int).toNat (⟨(rd_T47 t273 bt279.1).f0, rd y281 bt284.1, (rd_T47 t273 bt279.1).f2, (rd_T47 t273 bt279.1).f3, (rd_T47 t273 bt279.1).f4⟩ : S47)) t270 bt284.2) else (none)) else (none)) else (none)) else (none))))) = some (r1, r2) := by rw [if_pos rfl] at H; exact H
          clear H
          have H := H1
          clear H1
          replace H := Option.bind_eq_some_iff.mp H
          obtain ⟨⟨t279, t280⟩, A140, H⟩ := H
          replace H : ((some (([9223372036854775807, (-9223372036854775808)] : List Int) : List Int)).bind fun y281 => ((spec_l20Rd_pick.f kj3 t270 t280 2).bind fun bt284 => (if 0 ≤ bt284.1 then (if bt284.1 < (y281.length : Int) then (if 0 ≤ t279 then (if t279 < (t273.length : Int) then (spec_DrawLogPunctual.j1 kj3 (t273.set (t279 : Int).toNat (⟨(rd_T47 t273 t279).f0, rd y281 bt284.1, (rd_T47 t273 t279).f2, (rd_T47 t273 t279).f3, (rd_T47 t273 t279).f4⟩ : S47)) t270 bt284.2) else (none)) else (none)) else (none)) else (none)))) = some (r1, r2) := H
          have A14 := Aside0.mk A140
          clear A140
          obtain ⟨y281, hy281⟩ : ∃ y_ : List Int, y_ = (([9223372036854775807, (-9223372036854775808)] : List Int)) := ⟨_, rfl⟩
          replace H : ((spec_l20Rd_pick.f kj3 t270 t280 2).bind fun bt284 => (if 0 ≤ bt284.1 then (if bt284.1 < (y281.length : Int) then (if 0 ≤ t279 then (if t279 < (t273.length : Int) then (spec_DrawLogPunctual.j1 kj3 (t273.set (t279 : Int).toNat (⟨(rd_T47 t273 t279).f0, rd y281 bt284.1, (rd_T47 t273 t279).f2, (rd_T47 t273 t279).f3, (rd_T47 t273 t279).f4⟩ : S47)) t270 bt284.2) else (none)) else (none)) else (none)) else (none))) = some (r1, r2) := by first | (rw [hy281]; with_reducible exact H) | (have H2_ := (Option.bind_some _ _).symm.trans H; rw [hy281]; with_reducible exact H2_) | (have H2_ := (Option.bind_some _ _).symm.trans H; with_reducible exact H2_) | with_reducible exact H | (rw [hy281]; exact H) | exact H
          have Ny281 := Aside0.mk hy281
          clear hy281
          replace H := Option.bind_eq_some_iff.mp H
          obtain ⟨⟨t284, t285⟩, A150, H⟩ := H
          replace H : (if 0 ≤ t284 then (if t284 < (y281.length : Int) then (if 0 ≤ t279 then (if t279 < (t273.length : Int) then (spec_DrawLogPunctual.j1 kj3 (t273.set (t279 : Int).toNat (⟨(rd_T47 t273 t279).f0, rd y281 t284, (rd_T47 t273 t279).f2, (rd_T47 t273 t279).f3, (rd_T47 t273 t279).f4⟩ : S47)) t270 t285) else (none)) else (none)) else (none)) else (none)) = some (r1, r2) := H
          have A15 := Aside0.mk A150
          clear A150
          by_cases c16 : 0 ≤ t284
          · rw [if_pos c16] at H
            have c16b0 : decide (0 ≤ t284) = true := decide_eq_true c16
            clear c16
            (first | rw [c16b0] | (simp only [i64_w, i32_w]; rw [c16b0]) | skip)
            by_cases c17 : t284 < (y281.length : Int)
            · rw [if_pos c17] at H
              have c17b0 : decide (t284 < (y281.length : Int)) = true := decide_eq_true c17
              clear c17
              by_cases c18 : 0 ≤ t279
              · rw [if_pos c18] at H
                have c18b0 : decide (0 ≤ t279) = true := decide_eq_true c18
                clear c18
                by_cases c19 : t279 < (t273.length : Int)
                · rw [if_pos c19] at H
                  have c19b0 : decide (t279 < (t273.length : Int)) = true := decide_eq_true c19
                  clear c19
                  obtain ⟨y287, hy287⟩ : ∃ y_ : List (S47), y_ = (t273.set (t279 : Int).toNat (⟨(rd_T47 t273 t279).f0, rd y281 t284, (rd_T47 t273 t279).f2, (rd_T47 t273 t279).f3, (rd_T47 t273 t279).f4⟩ : S47)) := ⟨_, rfl⟩
                  replace H : (spec_DrawLogPunctual.j1 kj3 y287 t270 t285) = some (r1, r2) := by first | (rw [hy287]; with_reducible exact H) | (have H2_ := (Option.bind_some _ _).symm.trans H; rw [hy287]; with_reducible exact H2_) | (have H2_ := (Option.bind_some _ _).symm.trans H; with_reducible exact H2_) | with_reducible exact H | (rw [hy287]; exact H) | exact H
                  have Ny287 := Aside0.mk hy287
                  clear hy287
                  have H' := Aside0.mk H
                  clear H
                  obtain ⟨Ao21, co21, eo21⟩ := Kd.R_slice HO_5.out
                  subst eo21
                  go_wp2_with (first | ((with_reducible refine gate_callee (f := 53) rfl ?_); refine goesL_ (some 22) rfl rfl Try.func53 (by kernel_rfl) rfl #[.pointer (some ⟨g272, 0, none⟩), .int .i64 (t273.length : Int)] rfl (by (try simp only [List.map_toArray, List.map_cons, List.map_nil]); first | done | rfl | (simp only [List.length_drop, List.length_take]; rfl)) ?_; (with_reducible refine (spec_l20Rd_pick.calls kj3 g272 t270 x273001_3 (t273.length : Int) t279 t280 w _ ?side1 ?side2 A14.out).mono ?_); (case side1 => repeat (first | (with_reducible first | exact HI272.out | apply IsS105.alloc | apply IsS105.drewN | apply IsS105.drew | apply IsS105.set_1) | exact HI272.out)); (case side2 => repeat (first | (with_reducible first | exact HB.out | apply below_alloc | apply pw_below_drewN | apply below_drew1 | refine below_set ?_ (IsS105.ge HI272.out)) | exact HB.out)); rintro e w22 ⟨rfl, hi, hb, hk⟩; refine ⟨_, rfl, ?_⟩; have n0_ := Aside0.mk (Kd.R_mono (Kd.R_keep (IsS105.apart (show IsS105 w _ g272 t270 x273001_3 from by repeat (first | (with_reducible first | exact HI272.out | apply IsS105.alloc | apply IsS105.drewN | apply IsS105.drew | apply IsS105.set_1) | exact HI272.out)) (by (with_reducible repeat (first | apply Kd.R_alloc | apply Kd.R_drewN | apply Kd.R_drew)); exact HO_5.out) (by decide)) hk (fun _ h => h.2)) (fun _ h => h.1)); have n1_ := Aside0.mk (hb); have n2_ := Aside0.mk (hi); clear HO_5; clear HB; clear HI272; have HO_5 := n0_; have HB := n1_; have HI272 := n2_; clear n0_ n1_ n2_; (try clear hb); (try clear hb2); (try clear hk); (try clear hi)) | ((with_reducible refine gate_dst (N := 23) rfl ?_); refine Kd.R_lit (Kd.int .i64) _ 3 ?hg (N := 23) ?hd (xs := ([9223372036854775807, (-9223372036854775808)] : List Int)) (inner := [.int .i64 9223372036854775807, .int .i64 (-9223372036854775808)]) (ok := fun _ => True) (okp := fun _ => True) ?hr ?hp (fun _ hk => hk) trivial (Below.refl _ _) (Nat.le_refl _) (by simp) ?_; (case hd => rfl); (case hg => rfl); (case hr => first | (go_simp; done) | (go_simp; rfl)); (case hp => exact (Reps.one (show Kd.M (Kd.int .i64) _ _ _ 9223372036854775807 [.int .i64 9223372036854775807] from rfl) (Reps.one (show Kd.M (Kd.int .i64) _ _ _ (-9223372036854775808) [.int .i64 (-9223372036854775808)] from rfl) (Reps.none _ _)))); intro v282 w23 ho24 hb hg_ hnew_; clear hg_ hnew_; (first | rw [← Ny281.out] at ho24 | (simp only [Int.reduceToNat] at ho24; rw [← Ny281.out] at ho24)); have n0_ := Aside0.mk (Kd.R_below (by (with_reducible repeat (first | apply Kd.R_alloc | apply Kd.R_drewN | apply Kd.R_drew)); exact HO_5.out) hb); have n1_ := Aside0.mk (Kd.R_lower ho24 (below_size (by repeat (first | (with_reducible first | exact HB.out | apply below_alloc | apply pw_below_drewN | apply below_drew1 | refine below_set ?_ (IsS105.ge HI272.out)) | exact HB.out)))); have n2_ := Aside0.mk (IsS105.below (by repeat (first | (with_reducible first | exact HI272.out | apply IsS105.alloc | apply IsS105.drewN | apply IsS105.drew | apply IsS105.set_1) | exact HI272.out)) hb); have n3_ := Aside0.mk (below_step (by repeat (first | (with_reducible first | exact HB.out | apply below_alloc | apply pw_below_drewN | apply below_drew1 | refine below_set ?_ (IsS105.ge HI272.out)) | exact HB.out)) hb); clear HO_5; clear HI272; clear HB; have HO_5 := n0_; have HO283 := n1_; have HI272 := n2_; have HB := n3_; clear n0_ n1_ n2_ n3_; clear hb ho24) | ((with_reducible refine gate_callee (f := 53) rfl ?_); refine goesL_ (some 25) rfl rfl Try.func53 (by kernel_rfl) rfl #[.pointer (some ⟨g272, 0, none⟩), .int .i64 2] rfl (by (try simp only [List.map_toArray, List.map_cons, List.map_nil]); first | done | rfl | (simp only [List.length_drop, List.length_take]; rfl)) ?_; (with_reducible refine (spec_l20Rd_pick.calls kj3 g272 t270 t280 2 t284 t285 w _ ?side1 ?side2 A15.out).mono ?_); (case side1 => repeat (first | (with_reducible first | exact HI272.out | apply IsS105.alloc | apply IsS105.drewN | apply IsS105.drew | apply IsS105.set_1) | exact HI272.out)); (case side2 => repeat (first | (with_reducible first | exact HB.out | apply below_alloc | apply pw_below_drewN | apply below_drew1 | refine below_set ?_ (IsS105.ge HI272.out)) | exact HB.out)); rintro e w25 ⟨rfl, hi, hb, hk⟩; refine ⟨_, rfl, ?_⟩; have n0_ := Aside0.mk (Kd.R_mono (Kd.R_keep (IsS105.apart (show IsS105 w _ g272 t270 t280 from by repeat (first | (with_reducible first | exact HI272.out | apply IsS105.alloc | apply IsS105.drewN | apply IsS105.drew | apply IsS105.set_1) | exact HI272.out)) (by (with_reducible repeat (first | apply Kd.R_alloc | apply Kd.R_drewN | apply Kd.R_drew)); exact HO_5.out) (by decide)) hk (fun _ h => h.2)) (fun _ h => h.1)); have n1_ := Aside0.mk (Kd.R_mono (Kd.R_keep (IsS105.apart (show IsS105 w _ g272 t270 t280 from by repeat (first | (with_reducible first | exact HI272.out | apply IsS105.alloc | apply IsS105.drewN | apply IsS105.drew | apply IsS105.set_1) | exact HI272.out)) (by (with_reducible repeat (first | apply Kd.R_alloc | apply Kd.R_drewN | apply Kd.R_drew)); exact HO283.out) (by decide)) hk (fun _ h => h.2)) (fun _ h => h.1)); have n2_ := Aside0.mk (hb); have n3_ := Aside0.mk (hi); clear HO_5; clear HO283; clear HB; clear HI272; have HO_5 := n0_; have HO283 := n1_; have HB := n2_; have HI272 := n3_; clear n0_ n1_ n2_ n3_; (try clear hb); (try clear hb2); (try clear hk); (try clear hi); obtain ⟨Ao26, co26, eo26⟩ := Kd.R_slice HO283.out; subst eo26; have p286 : 0 ≤ (t284 : Int) := of_decide_eq_true (by first | (with_reducible assumption) | assumption); have q286 : t284 < (y281.length : Int) := of_decide_eq_true (by first | (with_reducible assumption) | assumption); obtain ⟨ad286, e286, hx286_0⟩ := Kd.at_int (Kd.R_reads' HO283.out).2.2 t284 p286 q286; cases e286; replace p286 := eq_true p286; replace q286 := eq_true q286; have p20 : 0 ≤ (t279 : Int) := of_decide_eq_true (by first | (with_reducible assumption) | assumption); have q20 : (t279 : Int) < ((t273.length : Int) : Int) := of_decide_eq_true (by first | (with_reducible assumption) | assumption); obtain ⟨go20, co20, eo20, gb20, gl20, cl20, HG20⟩ := Kd.R_form HO_5.out (by omega); (first | cases eo20 | (injection eo20 with ea_ en_ ec_; (first | subst ea_ | (injection ea_ with ea_; subst ea_)); subst ec_; clear en_)); have GB20 := Aside0.mk gb20; have GG20 := Aside0.mk HG20; clear gb20 gl20 HG20; obtain ⟨ce20, hcl20, hM20, hcc20, hfr20⟩ := Kd.R_elem HO_5.out z47 (t279 : Int) p20 q20; obtain rfl := k47_openM hM20; have hx20_0 : w25.cell? ⟨go20, (t279 : Int).toNat * 5, none⟩ = some (.int .i64 ((rd_T47 t273 t279).f0)) := hcc20 0 _ rfl; have hx20_1 : w25.cell? ⟨go20, (t279 : Int).toNat * 5 + 1, none⟩ = some (.int .i64 ((rd_T47 t273 t279).f1)) := hcc20 1 _ rfl; have hx20_2 : w25.cell? ⟨go20, (t279 : Int).toNat * 5 + 2, none⟩ = some (.int .i64 ((rd_T47 t273 t279).f2)) := hcc20 2 _ rfl; have hx20_3 : w25.cell? ⟨go20, (t279 : Int).toNat * 5 + 3, none⟩ = some (.int .i64 ((rd_T47 t273 t279).f3)) := hcc20 3 _ rfl; have hx20_4 : w25.cell? ⟨go20, (t279 : Int).toNat * 5 + 4, none⟩ = some (.int .i64 ((rd_T47 t273 t279).f4)) := hcc20 4 _ rfl; have hf20_0 : w25.frozen? ⟨go20, (t279 : Int).toNat * 5, none⟩ = false := hfr20 0; have hf20_1 : w25.frozen? ⟨go20, (t279 : Int).toNat * 5 + 1, none⟩ = false := hfr20 1; have hf20_2 : w25.frozen? ⟨go20, (t279 : Int).toNat * 5 + 2, none⟩ = false := hfr20 2; have hf20_3 : w25.frozen? ⟨go20, (t279 : Int).toNat * 5 + 3, none⟩ = false := hfr20 3; have hf20_4 : w25.frozen? ⟨go20, (t279 : Int).toNat * 5 + 4, none⟩ = false := hfr20 4; clear hcl20 hcc20 hfr20 hM20; replace p20 := eq_true p20; replace q20 := eq_true q20; have HX27 := Aside0.mk (show Kd.R k47 47 w25 w.heap.size (fun _ => True) (.slice (some ⟨go20, 0, none⟩) t273.length co21) t273 from (by (with_reducible repeat (first | apply Kd.R_alloc | apply Kd.R_drewN | apply Kd.R_drew)); exact HO_5.out)); obtain ⟨ce27, hcl27, hM27, hcc27, hfr27⟩ := Kd.R_elem HX27.out z47 (t279 : Int) (of_decide_eq_true (by first | (with_reducible assumption) | assumption)) (by have h_ : (t279 : Int) < ((t273.length : Int) : Int) := of_decide_eq_true (by first | (with_reducible assumption) | assumption); first | exact h_ | (have e_ := (Kd.R_reads' HO_5.out).1; omega) | simpa using h_); obtain rfl := k47_openM hM27; have HP27 := Kd.R_seg HX27.out (t279 : Int) (of_decide_eq_true (by first | (with_reducible assumption) | assumption)) (by have h_ : (t279 : Int) < ((t273.length : Int) : Int) := of_decide_eq_true (by first | (with_reducible assumption) | assumption); first | exact h_ | (have e_ := (Kd.R_reads' HO_5.out).1; omega) | simpa using h_) (seg := [.int .i64 (rd y281 t284)]) (j := 1) hcl27 hcc27 (show 2 ≤ 5 from by decide) (x' := (⟨(rd_T47 t273 t279).f0, rd y281 t284, (rd_T47 t273 t279).f2, (rd_T47 t273 t279).f3, (rd_T47 t273 t279).f4⟩ : S47)) (k47_mkM _ _ _ (⟨(rd_T47 t273 t279).f0, rd y281 t284, (rd_T47 t273 t279).f2, (rd_T47 t273 t279).f3, (rd_T47 t273 t279).f4⟩ : S47) ) (fun _ hk => hk); have hx27_1 := hcc27 1 _ rfl; (try simp only [show (k47).sz = 5 from rfl, Nat.mul_one, Nat.add_zero] at hx27_1); have hf27_1 := hfr27 1; (try simp only [show (k47).sz = 5 from rfl, Nat.mul_one, Nat.add_zero] at hf27_1); clear hcl27 hcc27 hfr27 hM27) | ((with_reducible refine gate_store (t := 3) (p := 29) rfl ?_); refine store_event (t := 3) (p := 29) (v := ?vo_w28) (w1 := (w25.setCell ⟨go20, (t279 : Int).toNat * 5 + 1, none⟩ (.int .i64 (rd y281 t284)))) ?hg ?ho ?hn ?hr ?_; (case ho => rfl); (case hg => rfl); (case hn => rfl); (case hr => first | (go_simp; done) | (go_simp; rfl)); intro w28 hw; have hg : w25.grownBy w28 (some go20) := (by rw [hw]; exact HP27.2); have hp_ : Kd.R k47 47 w28 w.heap.size (fun _ => True) (.slice (some ⟨go20, 0, none⟩) t273.length co21) y287 := (by rw [hw, Ny287.out]; exact HP27.1); clear HP27; have n0_ := Aside0.mk (hp_); have n1_ := Aside0.mk (IsS105.grown (by repeat (first | (with_reducible first | exact HI272.out | apply IsS105.alloc | apply IsS105.drewN | apply IsS105.drew | apply IsS105.set_1) | exact HI272.out)) hg (IsS105.own_ne HI272.out HO_5.out (by decide))); have n2_ := Aside0.mk (Kd.R_over' (v := (.slice (some ⟨go20, 0, none⟩) t273.length co21)) (by (with_reducible repeat (first | apply Kd.R_alloc | apply Kd.R_drewN | apply Kd.R_drew)); exact HO283.out) (Kd.R_typed HO_5.out) (by decide) hg); have n3_ := Aside0.mk ((by rw [hw]; exact below_set (HB.out) GB20.out : Below w.heap.size w w28)); clear HO_5; clear HI272; clear HO283; clear HB; have HO_5 := n0_; have HI272 := n1_; have HO283 := n2_; have HB := n3_; clear n0_ n1_ n2_ n3_; clear hg hw hp_))
                  go_meet
                  case rel => exact ⟨_, (y287), (t285), H', ⟨by have := HJ3.out; first | omega | exact Nat.le_refl _⟩, ⟨by (with_reducible repeat (first | apply Kd.R_alloc | apply Kd.R_drewN | apply Kd.R_drew)); exact HO_5.out⟩, ⟨by repeat (first | (with_reducible first | exact HI272.out | apply IsS105.alloc | apply IsS105.drewN | apply IsS105.drew | apply IsS105.set_1) | exact HI272.out)⟩, ⟨by repeat (first | (with_reducible first | exact HB.out | apply below_alloc | apply pw_below_drewN | apply below_drew1 | refine below_set ?_ (IsS105.ge HI272.out)) | exact HB.out)⟩⟩
                · rw [if_neg c19] at H
                  exact absurd H (by simp)
              · rw [if_neg c18] at H
                exact absurd H (by simp)
            · rw [if_neg c17] at H
              exact absurd H (by simp)
          · rw [if_neg c16] at H
            exact absurd H (by simp)
        · replace c13 := Bool.eq_false_iff.mpr c13
          subst c13
          have H1 : (spec_DrawLogPunctual.j1 kj3 t273 t270 x273001_3) = some (r1, r2) := by rw [if_neg (show ¬ (false = true) by decide)] at H; exact H
          clear H
          have H := H1
          clear H1
          have H' := Aside0.mk H
          clear H
          go_wp2
          go_meet
          case rel => exact ⟨_, (t273), (x273001_3), H', ⟨by have := HJ3.out; first | omega | exact Nat.le_refl _⟩, ⟨by (with_reducible repeat (first | apply Kd.R_alloc | apply Kd.R_drewN | apply Kd.R_drew)); exact HO_5.out⟩, ⟨by repeat (first | (with_reducible first | exact HI272.out | apply IsS105.alloc | apply IsS105.drewN | apply IsS105.drew | apply IsS105.set_1) | exact HI272.out)⟩, ⟨by repeat (first | (with_reducible first | exact HB.out | apply below_alloc | apply pw_below_drewN | apply below_drew1 | refine below_set ?_ (IsS105.ge HI272.out)) | exact HB.out)⟩⟩
      case rest =>
        clear HC12
        try clear c1
        try clear c2
        try clear p2
        try clear q2
        try clear hx2
        try clear hf2
        try clear c5
        try clear c7
        try clear c7b0
        try clear c7b1
        try clear c10
        try clear c13
        try clear c16
        try clear c16b0
        try clear c17
        try clear c17b0
        try clear c18
        try clear c18b0
        try clear c19
        try clear c19b0
        try clear c20
        try clear p20
        try clear q20
        try clear hx20
        try clear hf20
        try clear c27
        try clear hx27
        try clear hf27
        try clear p28
        try clear q28
        try clear hx28
        try clear hx20_0
        try clear hx20_1
        try clear hx20_2
        try clear hx20_3
        try clear hx20_4
        try clear hx27_1
        try clear hx286_0
        try clear p2
        try clear p20
        try clear p286
        try clear q20
        try clear q286
        obtain ⟨kq, x5_11, x273001_11, HA, HJ11, HO_5, HI272, HB⟩ := hcut
        cases kq with
        | zero => exact absurd HA.out (by simp [spec_DrawLogPunctual.j1])
        | succ kj11 =>
          have H := HA.out
          clear HA
          simp only [spec_DrawLogPunctual.j1] at H
          replace H := Option.bind_eq_some_iff.mp H
          obtain ⟨⟨t288, t289⟩, A290, H⟩ := H
          replace H : ((spec_l20Rd_pick.f kj11 t270 t289 14).bind fun bt290 => ((spec_l20Rd_pick.f kj11 t270 bt290.2 14).bind fun bt292 => ((spec_l20Rd_pick.f kj11 t270 bt292.2 14).bind fun bt294 => ((some (([t288, bt290.1, bt292.1, bt294.1, 1000, 1001, (-1), (-9223372036854775808)] : List Int) : List Int)).bind fun y296 => ((spec_l20Rd_pick.f kj11 t270 bt294.2 8).bind fun bt299 => (if 0 ≤ bt299.1 then (if bt299.1 < (y296.length : Int) then (some (x5_11, rd y296 bt299.1)) else (none)) else (none))))))) = some (r1, r2) := H
          have A29 := Aside0.mk A290
          clear A290
          replace H := Option.bind_eq_some_iff.mp H
          obtain ⟨⟨t290, t291⟩, A300, H⟩ := H
          replace H : ((spec_l20Rd_pick.f kj11 t270 t291 14).bind fun bt292 => ((spec_l20Rd_pick.f kj11 t270 bt292.2 14).bind fun bt294 => ((some (([t288, t290, bt292.1, bt294.1, 1000, 1001, (-1), (-9223372036854775808)] : List Int) : List Int)).bind fun y296 => ((spec_l20Rd_pick.f kj11 t270 bt294.2 8).bind fun bt299 => (if 0 ≤ bt299.1 then (if bt299.1 < (y296.length : Int) then (some (x5_11, rd y296 bt299.1)) else (none)) else (none)))))) = some (r1, r2) := H
          have A30 := Aside0.mk A300
          clear A300
          replace H := Option.bind_eq_some_iff.mp H
          obtain ⟨⟨t292, t293⟩, A310, H⟩ := H
          replace H : ((spec_l20Rd_pick.f kj11 t270 t293 14).bind fun bt294 => ((some (([t288, t290, t292, bt294.1, 1000, 1001, (-1), (-9223372036854775808)] : List Int) : List Int)).bind fun y296 => ((spec_l20Rd_pick.f kj11 t270 bt294.2 8).bind fun bt299 => (if 0 ≤ bt299.1 then (if bt299.1 < (y296.length : Int) then (some (x5_11, rd y296 bt299.1)) else (none)) else (none))))) = some (r1, r2) := H
          have A31 := Aside0.mk A310
          clear A310
          replace H := Option.bind_eq_some_iff.mp H
          obtain ⟨⟨t294, t295⟩, A320, H⟩ := H
          replace H : ((some (([t288, t290, t292, t294, 1000, 1001, (-1), (-9223372036854775808)] : List Int) : List Int)).bind fun y296 => ((spec_l20Rd_pick.f kj11 t270 t295 8).bind fun bt299 => (if 0 ≤ bt299.1 then (if bt299.1 < (y296.length : Int) then (some (x5_11, rd y296 bt299.1)) else (none)) else (none)))) = some (r1, r2) := H
          have A32 := Aside0.mk A320
          clear A320
          obtain ⟨y296, hy296⟩ : ∃ y_ : List Int, y_ = (([t288, t290, t292, t294, 1000, 1001, (-1), (-9223372036854775808)] : List Int)) := ⟨_, rfl⟩
          replace H : ((spec_l20Rd_pick.f kj11 t270 t295 8).bind fun bt299 => (if 0 ≤ bt299.1 then (if bt299.1 < (y296.length : Int) then (some (x5_11, rd y296 bt299.1)) else (none)) else (none))) = some (r1, r2) := by first | (rw [hy296]; with_reducible exact H) | (have H2_ := (Option.bind_some _ _).symm.trans H; rw [hy296]; with_reducible exact H2_) | (have H2_ := (Option.bind_some _ _).symm.trans H; with_reducible exact H2_) | with_reducible exact H | (rw [hy296]; exact H) | exact H
          have Ny296 := Aside0.mk hy296
          clear hy296
          replace H := Option.bind_eq_some_iff.mp H
          obtain ⟨⟨t299, t300⟩, A330, H⟩ := H
          replace H : (if 0 ≤ t299 then (if t299 < (y296.length : Int) then (some (x5_11, rd y296 t299)) else (none)) else (none)) = some (r1, r2) := H
          have A33 := Aside0.mk A330
          clear A330
          by_cases c34 : 0 ≤ t299
          · rw [if_pos c34] at H
            have c34b0 : decide (0 ≤ t299) = true := decide_eq_true c34
            clear c34
            by_cases c35 : t299 < (y296.length : Int)
            · rw [if_pos c35] at H
              have c35b0 : decide (t299 < (y296.length : Int)) = true := decide_eq_true c35
              clear c35
              simp only [Option.some.injEq, Prod.mk.injEq] at H
              obtain ⟨rfl, rfl⟩ := H
              try go_wp2
              have pi301 : (0 ≤ (t299 : Int)) = True := eq_true (of_decide_eq_true (by first | (with_reducible assumption) | assumption))
              have qi301 : (t299 < (y296.length : Int)) = True := eq_true (of_decide_eq_true (by first | (with_reducible assumption) | assumption))
              have n0_ := Aside0.mk (Kd.R_drew HO_5.out)
              have n1_ := Aside0.mk (IsS105.drew HI272.out)
              have n2_ := Aside0.mk (below_drew1 HB.out)
              clear HO_5
              clear HI272
              clear HB
              have HO_5 := n0_
              have HI272 := n1_
              have HB := n2_
              clear n0_ n1_ n2_
              refine start_ (n := 16) (S := fun w' => True) (ds := []) #[false, false, false, false, false, false, false, false, false, false, false, false, false, false, false, false] (by kernel_rfl) rfl rfl trivial (fun hHeld => ?_); refine with_tabW spec_DrawLogPunctual.tab5 spec_DrawLogPunctual.bits5 (fun HT_ HW_ => ?_)
              generalize wc.drew = w36 at HO_5 HI272 HB hHeld ⊢
              refine pure_ (i := 0) (N := some 30) (v := ?_) (a' := ?_) #[true, false, false, false, false, false, false, false, false, false, false, false, false, false, false, false] rfl rfl (any_of HT_.out (by kernel_rfl)) (fun _ _ _ h => h) (Or.inl ⟨by rfl, ?_⟩) ?_ ?_
              rotate_left
              · intro w'
                go_simp
                with_reducible rfl
              rotate_left
              · simp only [Act.put, List.setIfInBounds_toArray, List.set_cons_zero, List.set_cons_succ, i64_w, i32_w]
                rfl
              refine pure_ (i := 1) (N := some 31) (v := ?_) (a' := ?_) #[true, true, false, false, false, false, false, false, false, false, false, false, false, false, false, false] rfl rfl (any_of HT_.out (by kernel_rfl)) (fun _ _ _ h => h) (Or.inl ⟨by rfl, ?_⟩) ?_ ?_
              rotate_left
              · intro w'
                go_simp
                with_reducible rfl
              rotate_left
              · simp only [Act.put, List.setIfInBounds_toArray, List.set_cons_zero, List.set_cons_succ, i64_w, i32_w]
                rfl
              refine pure_ (i := 3) (N := some 33) (v := ?_) (a' := ?_) #[true, true, false, true, false, false, false, false, false, false, false, false, false, false, false, false] rfl rfl (any_of HT_.out (by kernel_rfl)) (fun _ _ _ h => h) (Or.inl ⟨by rfl, ?_⟩) ?_ ?_
              rotate_left
              · intro w'
                go_simp
                with_reducible rfl
              rotate_left
              · simp only [Act.put, List.setIfInBounds_toArray, List.set_cons_zero, List.set_cons_succ, i64_w, i32_w]
                rfl
              refine pure_ (i := 5) (N := some 35) (v := ?_) (a' := ?_) #[true, true, false, true, false, true, false, false, false, false, false, false, false, false, false, false] rfl rfl (any_of HT_.out (by kernel_rfl)) (fun _ _ _ h => h) (Or.inl ⟨by rfl, ?_⟩) ?_ ?_
              rotate_left
              · intro w'
                go_simp
                with_reducible rfl
              rotate_left
              · simp only [Act.put, List.setIfInBounds_toArray, List.set_cons_zero, List.set_cons_succ, i64_w, i32_w]
                rfl
              refine pure_ (i := 7) (N := some 37) (v := ?_) (a' := ?_) #[true, true, false, true, false, true, false, true, false, false, false, false, false, false, false, false] rfl rfl (any_of HT_.out (by kernel_rfl)) (fun _ _ _ h => h) (Or.inl ⟨by rfl, ?_⟩) ?_ ?_
              rotate_left
              · intro w'
                go_simp
                with_reducible rfl
              rotate_left
              · simp only [Act.put, List.setIfInBounds_toArray, List.set_cons_zero, List.set_cons_succ, i64_w, i32_w]
                rfl
              refine pure_ (i := 10) (N := some 40) (v := ?_) (a' := ?_) #[true, true, false, true, false, true, false, true, false, false, true, false, false, false, false, false] rfl rfl (any_of HT_.out (by kernel_rfl)) (fun _ _ _ h => h) (Or.inl ⟨by rfl, ?_⟩) ?_ ?_
              rotate_left
              · intro w'
                go_simp
                with_reducible rfl
              rotate_left
              · simp only [Act.put, List.setIfInBounds_toArray, List.set_cons_zero, List.set_cons_succ, i64_w, i32_w]
                rfl
              refine inv_at [2, 4, 6, 8, 9, 11, 12, 13, 14, 15] (fun a0_ b a w' => ∃ (v297 : Value) (adz_v297 : Addr) (m12_ : Value), a = putSel a0_ b [(2, 32, .int .i64 t288), (4, 34, .int .i64 t290), (6, 36, .int .i64 t292), (8, 38, .int .i64 t294), (9, 39, v297), (11, 41, .int .i64 t299), (12, 42, m12_), (13, 43, .int .i64 (rd y296 t299)), (14, 2, v274), (15, 3, .int .i64 (rd y296 t299))] ∧ (Kd.R k47 47 w' w.heap.size (fun _ => True) v274 x5_11) ∧ (b 2 = false → IsS105 w w' g272 t270 x273001_11) ∧ (Below w.heap.size w w') ∧ (b 2 = true → b 4 = false → IsS105 w w' g272 t270 t289) ∧ (b 4 = true → b 6 = false → IsS105 w w' g272 t270 t291) ∧ (b 6 = true → b 8 = false → IsS105 w w' g272 t270 t293) ∧ (b 8 = true → b 11 = false → IsS105 w w' g272 t270 t295) ∧ (b 9 = true → Kd.R (Kd.int .i64) 3 w' w.heap.size (fun _ => True) v297 y296) ∧ (b 9 = true → ∃ c_, (v297 : Value) = .slice (some adz_v297) y296.length c_) ∧ (b 11 = true → IsS105 w w' g272 t270 t300) ∧ (b 12 = true → (m12_ : Value) = .pointer (some (adz_v297.add (t299).toNat)))) HT_.out HW_.out (by kernel_rfl) (by kernel_rfl) ?_ ?_ ?_
              · exact ⟨.bool false, ⟨0, 0, none⟩, .bool false, by simp only [putSel, Bool.false_eq_true, if_false], HO_5.out, fun _ => HI272.out, HB.out, fun h_ => absurd h_ (by decide), fun h_ => absurd h_ (by decide), fun h_ => absurd h_ (by decide), fun h_ => absurd h_ (by decide), fun h_ => absurd h_ (by decide), fun h_ => absurd h_ (by decide), fun h_ => absurd h_ (by decide), fun h_ => absurd h_ (by decide)⟩
              · skip
                clear HB HI272 HO_5
                refine steps_cons ?_ ?_
                · rintro b a w' ⟨v297, adz_v297, m12_, ha, Q_HO_5, Q_HI272, Q_HB, Q_HI272_e2, Q_HI272_e4, Q_HI272_e6, Q_HI272_e8, Q_HO298, Q_HA_HO298, Q_HI272_e11, Q_X12_⟩ hb_ hon hoff
                  refine ⟨_, rfl, fun K hK => ?_⟩
                  have e31 : a.tmps[31]? = some (.pointer (some ⟨g272, 0, none⟩)) := by rw [ha]; exact (putSel_off rfl).trans rfl
                  replace ha := Aside0.mk ha
                  have HO_5 := Aside0.mk Q_HO_5
                  have HI272 := Aside0.mk (Q_HI272 hb_)
                  have HB := Aside0.mk Q_HB
                  refine goes_ Try.func53 (by kernel_rfl) rfl #[.pointer (some ⟨g272, 0, none⟩), .int .i64 14] (by rfl) rfl rfl (by first | (simp only [List.map_toArray, List.map_cons, List.map_nil, Act.eval, Array.getD_eq_getD_getElem?, Option.getD_some, e31]; done) | (simp only [List.map_toArray, List.map_cons, List.map_nil, Act.eval, Array.getD_eq_getD_getElem?, Option.getD_some, e31]; rfl)) ?_
                  with_reducible refine (spec_l20Rd_pick.calls kj11 g272 t270 x273001_11 14 t288 t289 w _ ?side1 ?side2 A29.out).mono ?_
                  (case side1 => repeat (first | (with_reducible first | exact HI272.out | apply IsS105.alloc | apply IsS105.drewN | apply IsS105.drew | apply IsS105.set_1) | exact HI272.out))
                  (case side2 => repeat (first | (with_reducible first | exact HB.out | apply below_alloc | apply pw_below_drewN | apply below_drew1 | refine below_set ?_ (IsS105.ge HI272.out)) | exact HB.out))
                  rintro e w37 ⟨rfl, hi, hb, hk⟩
                  refine ⟨_, rfl, ?_⟩
                  have n0_ := Aside0.mk (Kd.R_mono (Kd.R_keep (IsS105.apart (show IsS105 w _ g272 t270 x273001_11 from by repeat (first | (with_reducible first | exact HI272.out | apply IsS105.alloc | apply IsS105.drewN | apply IsS105.drew | apply IsS105.set_1) | exact HI272.out)) (by (with_reducible repeat (first | apply Kd.R_alloc | apply Kd.R_drewN | apply Kd.R_drew)); exact HO_5.out) (by decide)) hk (fun _ h => h.2)) (fun _ h => h.1))
                  have n1_ := Aside0.mk (hb)
                  have n2_ := Aside0.mk (hi)
                  clear HO_5
                  clear HB
                  clear HI272
                  have HO_5 := n0_
                  have HB := n1_
                  have HI272 := n2_
                  clear n0_ n1_ n2_
                  (try clear hb)
                  (try clear hb2)
                  (try clear hk)
                  (try clear hi)
                  refine hK.out _ _ ⟨v297, adz_v297, m12_, (by rw [ha.out]; exact putSel_upk 0 hb_ rfl rfl rfl), (by (with_reducible repeat (first | apply Kd.R_alloc | apply Kd.R_drewN | apply Kd.R_drew)); exact HO_5.out), fun h0_ => absurd ((up_self b 2).symm.trans h0_) (by decide), (by repeat (first | (with_reducible first | exact HB.out | apply below_alloc | apply pw_below_drewN | apply below_drew1 | refine below_set ?_ (IsS105.ge HI272.out)) | exact HB.out)), fun _ _ => (by repeat (first | (with_reducible first | exact HI272.out | apply IsS105.alloc | apply IsS105.drewN | apply IsS105.drew | apply IsS105.set_1) | exact HI272.out)), fun h0_ _ => absurd ((hoff 4 (by kernel_rfl)).symm.trans h0_) (by decide), fun h0_ _ => absurd ((hoff 6 (by kernel_rfl)).symm.trans h0_) (by decide), fun h0_ _ => absurd ((hoff 8 (by kernel_rfl)).symm.trans h0_) (by decide), fun h0_ => absurd ((hoff 9 (by kernel_rfl)).symm.trans h0_) (by decide), fun h0_ => absurd ((hoff 9 (by kernel_rfl)).symm.trans h0_) (by decide), fun h0_ => absurd ((hoff 11 (by kernel_rfl)).symm.trans h0_) (by decide), fun h0_ => absurd ((hoff 12 (by kernel_rfl)).symm.trans h0_) (by decide)⟩
                refine steps_cons ?_ ?_
                · rintro b a w' ⟨v297, adz_v297, m12_, ha, Q_HO_5, Q_HI272, Q_HB, Q_HI272_e2, Q_HI272_e4, Q_HI272_e6, Q_HI272_e8, Q_HO298, Q_HA_HO298, Q_HI272_e11, Q_X12_⟩ hb_ hon hoff
                  refine ⟨_, rfl, fun K hK => ?_⟩
                  have e33 : a.tmps[33]? = some (.pointer (some ⟨g272, 0, none⟩)) := by rw [ha]; exact (putSel_off rfl).trans rfl
                  replace ha := Aside0.mk ha
                  have HO_5 := Aside0.mk Q_HO_5
                  have HB := Aside0.mk Q_HB
                  have HI272 := Aside0.mk (Q_HI272_e2 (hon 2 (by kernel_rfl)) hb_)
                  refine goes_ Try.func53 (by kernel_rfl) rfl #[.pointer (some ⟨g272, 0, none⟩), .int .i64 14] (by rfl) rfl rfl (by first | (simp only [List.map_toArray, List.map_cons, List.map_nil, Act.eval, Array.getD_eq_getD_getElem?, Option.getD_some, e33]; done) | (simp only [List.map_toArray, List.map_cons, List.map_nil, Act.eval, Array.getD_eq_getD_getElem?, Option.getD_some, e33]; rfl)) ?_
                  with_reducible refine (spec_l20Rd_pick.calls kj11 g272 t270 t289 14 t290 t291 w _ ?side1 ?side2 A30.out).mono ?_
                  (case side1 => repeat (first | (with_reducible first | exact HI272.out | apply IsS105.alloc | apply IsS105.drewN | apply IsS105.drew | apply IsS105.set_1) | exact HI272.out))
                  (case side2 => repeat (first | (with_reducible first | exact HB.out | apply below_alloc | apply pw_below_drewN | apply below_drew1 | refine below_set ?_ (IsS105.ge HI272.out)) | exact HB.out))
                  rintro e w39 ⟨rfl, hi, hb, hk⟩
                  refine ⟨_, rfl, ?_⟩
                  have n0_ := Aside0.mk (Kd.R_mono (Kd.R_keep (IsS105.apart (show IsS105 w _ g272 t270 t289 from by repeat (first | (with_reducible first | exact HI272.out | apply IsS105.alloc | apply IsS105.drewN | apply IsS105.drew | apply IsS105.set_1) | exact HI272.out)) (by (with_reducible repeat (first | apply Kd.R_alloc | apply Kd.R_drewN | apply Kd.R_drew)); exact HO_5.out) (by decide)) hk (fun _ h => h.2)) (fun _ h => h.1))
                  have n1_ := Aside0.mk (hb)
                  have n2_ := Aside0.mk (hi)
                  clear HO_5
                  clear HB
                  clear HI272
                  have HO_5 := n0_
                  have HB := n1_
                  have HI272 := n2_
                  clear n0_ n1_ n2_
                  (try clear hb)
                  (try clear hb2)
                  (try clear hk)
                  (try clear hi)
                  refine hK.out _ _ ⟨v297, adz_v297, m12_, (by rw [ha.out]; exact putSel_upk 1 hb_ rfl rfl rfl), (by (with_reducible repeat (first | apply Kd.R_alloc | apply Kd.R_drewN | apply Kd.R_drew)); exact HO_5.out), fun h0_ => absurd ((hon 2 (by kernel_rfl)).symm.trans h0_) (by decide), (by repeat (first | (with_reducible first | exact HB.out | apply below_alloc | apply pw_below_drewN | apply below_drew1 | refine below_set ?_ (IsS105.ge HI272.out)) | exact HB.out)), fun _ h1_ => absurd ((up_self b 4).symm.trans h1_) (by decide), fun _ _ => (by repeat (first | (with_reducible first | exact HI272.out | apply IsS105.alloc | apply IsS105.drewN | apply IsS105.drew | apply IsS105.set_1) | exact HI272.out)), fun h0_ _ => absurd ((hoff 6 (by kernel_rfl)).symm.trans h0_) (by decide), fun h0_ _ => absurd ((hoff 8 (by kernel_rfl)).symm.trans h0_) (by decide), fun h0_ => absurd ((hoff 9 (by kernel_rfl)).symm.trans h0_) (by decide), fun h0_ => absurd ((hoff 9 (by kernel_rfl)).symm.trans h0_) (by decide), fun h0_ => absurd ((hoff 11 (by kernel_rfl)).symm.trans h0_) (by decide), fun h0_ => absurd ((hoff 12 (by kernel_rfl)).symm.trans h0_) (by decide)⟩
                refine steps_cons ?_ ?_
                · rintro b a w' ⟨v297, adz_v297, m12_, ha, Q_HO_5, Q_HI272, Q_HB, Q_HI272_e2, Q_HI272_e4, Q_HI272_e6, Q_HI272_e8, Q_HO298, Q_HA_HO298, Q_HI272_e11, Q_X12_⟩ hb_ hon hoff
                  refine ⟨_, rfl, fun K hK => ?_⟩
                  have e35 : a.tmps[35]? = some (.pointer (some ⟨g272, 0, none⟩)) := by rw [ha]; exact (putSel_off rfl).trans rfl
                  replace ha := Aside0.mk ha
                  have HO_5 := Aside0.mk Q_HO_5
                  have HB := Aside0.mk Q_HB
                  have HI272 := Aside0.mk (Q_HI272_e4 (hon 4 (by kernel_rfl)) hb_)
                  refine goes_ Try.func53 (by kernel_rfl) rfl #[.pointer (some ⟨g272, 0, none⟩), .int .i64 14] (by rfl) rfl rfl (by first | (simp only [List.map_toArray, List.map_cons, List.map_nil, Act.eval, Array.getD_eq_getD_getElem?, Option.getD_some, e35]; done) | (simp only [List.map_toArray, List.map_cons, List.map_nil, Act.eval, Array.getD_eq_getD_getElem?, Option.getD_some, e35]; rfl)) ?_
                  with_reducible refine (spec_l20Rd_pick.calls kj11 g272 t270 t291 14 t292 t293 w _ ?side1 ?side2 A31.out).mono ?_
                  (case side1 => repeat (first | (with_reducible first | exact HI272.out | apply IsS105.alloc | apply IsS105.drewN | apply IsS105.drew | apply IsS105.set_1) | exact HI272.out))
                  (case side2 => repeat (first | (with_reducible first | exact HB.out | apply below_alloc | apply pw_below_drewN | apply below_drew1 | refine below_set ?_ (IsS105.ge HI272.out)) | exact HB.out))
                  rintro e w40 ⟨rfl, hi, hb, hk⟩
                  refine ⟨_, rfl, ?_⟩
                  have n0_ := Aside0.mk (Kd.R_mono (Kd.R_keep (IsS105.apart (show IsS105 w _ g272 t270 t291 from by repeat (first | (with_reducible first | exact HI272.out | apply IsS105.alloc | apply IsS105.drewN | apply IsS105.drew | apply IsS105.set_1) | exact HI272.out)) (by (with_reducible repeat (first | apply Kd.R_alloc | apply Kd.R_drewN | apply Kd.R_drew)); exact HO_5.out) (by decide)) hk (fun _ h => h.2)) (fun _ h => h.1))
                  have n1_ := Aside0.mk (hb)
                  have n2_ := Aside0.mk (hi)
                  clear HO_5
                  clear HB
                  clear HI272
                  have HO_5 := n0_
                  have HB := n1_
                  have HI272 := n2_
                  clear n0_ n1_ n2_
                  (try clear hb)
                  (try clear hb2)
                  (try clear hk)
                  (try clear hi)
                  refine hK.out _ _ ⟨v297, adz_v297, m12_, (by rw [ha.out]; exact putSel_upk 2 hb_ rfl rfl rfl), (by (with_reducible repeat (first | apply Kd.R_alloc | apply Kd.R_drewN | apply Kd.R_drew)); exact HO_5.out), fun h0_ => absurd ((hon 2 (by kernel_rfl)).symm.trans h0_) (by decide), (by repeat (first | (with_reducible first | exact HB.out | apply below_alloc | apply pw_below_drewN | apply below_drew1 | refine below_set ?_ (IsS105.ge HI272.out)) | exact HB.out)), fun _ h1_ => absurd ((hon 4 (by kernel_rfl)).symm.trans h1_) (by decide), fun _ h1_ => absurd ((up_self b 6).symm.trans h1_) (by decide), fun _ _ => (by repeat (first | (with_reducible first | exact HI272.out | apply IsS105.alloc | apply IsS105.drewN | apply IsS105.drew | apply IsS105.set_1) | exact HI272.out)), fun h0_ _ => absurd ((hoff 8 (by kernel_rfl)).symm.trans h0_) (by decide), fun h0_ => absurd ((hoff 9 (by kernel_rfl)).symm.trans h0_) (by decide), fun h0_ => absurd ((hoff 9 (by kernel_rfl)).symm.trans h0_) (by decide), fun h0_ => absurd ((hoff 11 (by kernel_rfl)).symm.trans h0_) (by decide), fun h0_ => absurd ((hoff 12 (by kernel_rfl)).symm.trans h0_) (by decide)⟩
                refine steps_cons ?_ ?_
                · rintro b a w' ⟨v297, adz_v297, m12_, ha, Q_HO_5, Q_HI272, Q_HB, Q_HI272_e2, Q_HI272_e4, Q_HI272_e6, Q_HI272_e8, Q_HO298, Q_HA_HO298, Q_HI272_e11, Q_X12_⟩ hb_ hon hoff
                  refine ⟨_, rfl, fun K hK => ?_⟩
                  have e37 : a.tmps[37]? = some (.pointer (some ⟨g272, 0, none⟩)) := by rw [ha]; exact (putSel_off rfl).trans rfl
                  replace ha := Aside0.mk ha
                  have HO_5 := Aside0.mk Q_HO_5
                  have HB := Aside0.mk Q_HB
                  have HI272 := Aside0.mk (Q_HI272_e6 (hon 6 (by kernel_rfl)) hb_)
                  refine goes_ Try.func53 (by kernel_rfl) rfl #[.pointer (some ⟨g272, 0, none⟩), .int .i64 14] (by rfl) rfl rfl (by first | (simp only [List.map_toArray, List.map_cons, List.map_nil, Act.eval, Array.getD_eq_getD_getElem?, Option.getD_some, e37]; done) | (simp only [List.map_toArray, List.map_cons, List.map_nil, Act.eval, Array.getD_eq_getD_getElem?, Option.getD_some, e37]; rfl)) ?_
                  with_reducible refine (spec_l20Rd_pick.calls kj11 g272 t270 t293 14 t294 t295 w _ ?side1 ?side2 A32.out).mono ?_
                  (case side1 => repeat (first | (with_reducible first | exact HI272.out | apply IsS105.alloc | apply IsS105.drewN | apply IsS105.drew | apply IsS105.set_1) | exact HI272.out))
                  (case side2 => repeat (first | (with_reducible first | exact HB.out | apply below_alloc | apply pw_below_drewN | apply below_drew1 | refine below_set ?_ (IsS105.ge HI272.out)) | exact HB.out))
                  rintro e w41 ⟨rfl, hi, hb, hk⟩
                  refine ⟨_, rfl, ?_⟩
                  have n0_ := Aside0.mk (Kd.R_mono (Kd.R_keep (IsS105.apart (show IsS105 w _ g272 t270 t293 from by repeat (first | (with_reducible first | exact HI272.out | apply IsS105.alloc | apply IsS105.drewN | apply IsS105.drew | apply IsS105.set_1) | exact HI272.out)) (by (with_reducible repeat (first | apply Kd.R_alloc | apply Kd.R_drewN | apply Kd.R_drew)); exact HO_5.out) (by decide)) hk (fun _ h => h.2)) (fun _ h => h.1))
                  have n1_ := Aside0.mk (hb)
                  have n2_ := Aside0.mk (hi)
                  clear HO_5
                  clear HB
                  clear HI272
                  have HO_5 := n0_
                  have HB := n1_
                  have HI272 := n2_
                  clear n0_ n1_ n2_
                  (try clear hb)
                  (try clear hb2)
                  (try clear hk)
                  (try clear hi)
                  refine hK.out _ _ ⟨v297, adz_v297, m12_, (by rw [ha.out]; exact putSel_upk 3 hb_ rfl rfl rfl), (by (with_reducible repeat (first | apply Kd.R_alloc | apply Kd.R_drewN | apply Kd.R_drew)); exact HO_5.out), fun h0_ => absurd ((hon 2 (by kernel_rfl)).symm.trans h0_) (by decide), (by repeat (first | (with_reducible first | exact HB.out | apply below_alloc | apply pw_below_drewN | apply below_drew1 | refine below_set ?_ (IsS105.ge HI272.out)) | exact HB.out)), fun _ h1_ => absurd ((hon 4 (by kernel_rfl)).symm.trans h1_) (by decide), fun _ h1_ => absurd ((hon 6 (by kernel_rfl)).symm.trans h1_) (by decide), fun _ h1_ => absurd ((up_self b 8).symm.trans h1_) (by decide), fun _ _ => (by repeat (first | (with_reducible first | exact HI272.out | apply IsS105.alloc | apply IsS105.drewN | apply IsS105.drew | apply IsS105.set_1) | exact HI272.out)), fun h0_ => absurd ((hoff 9 (by kernel_rfl)).symm.trans h0_) (by decide), fun h0_ => absurd ((hoff 9 (by kernel_rfl)).symm.trans h0_) (by decide), fun h0_ => absurd ((hoff 11 (by kernel_rfl)).symm.trans h0_) (by decide), fun h0_ => absurd ((hoff 12 (by kernel_rfl)).symm.trans h0_) (by decide)⟩
                refine steps_cons ?_ ?_
                · rintro b a w' ⟨v297, adz_v297, m12_, ha, Q_HO_5, Q_HI272, Q_HB, Q_HI272_e2, Q_HI272_e4, Q_HI272_e6, Q_HI272_e8, Q_HO298, Q_HA_HO298, Q_HI272_e11, Q_X12_⟩ hb_ hon hoff
                  refine ⟨_, rfl, fun K hK => ?_⟩
                  have e32 : a.tmps[32]? = some (.int .i64 t288) := by rw [ha]; exact putSel_on (e := (2, 32, .int .i64 t288)) 0 rfl rfl (hon 2 (by kernel_rfl)) rfl
                  have e34 : a.tmps[34]? = some (.int .i64 t290) := by rw [ha]; exact putSel_on (e := (4, 34, .int .i64 t290)) 1 rfl rfl (hon 4 (by kernel_rfl)) rfl
                  have e36 : a.tmps[36]? = some (.int .i64 t292) := by rw [ha]; exact putSel_on (e := (6, 36, .int .i64 t292)) 2 rfl rfl (hon 6 (by kernel_rfl)) rfl
                  have e38 : a.tmps[38]? = some (.int .i64 t294) := by rw [ha]; exact putSel_on (e := (8, 38, .int .i64 t294)) 3 rfl rfl (hon 8 (by kernel_rfl)) rfl
                  replace ha := Aside0.mk ha
                  have HO_5 := Aside0.mk Q_HO_5
                  have HB := Aside0.mk Q_HB
                  refine Kd.R_lit_step (Kd.int .i64) _ 3 ?hg (N := 39) ?hd (xs := ([t288, t290, t292, t294, 1000, 1001, (-1), (-9223372036854775808)] : List Int)) (inner := [.int .i64 t288, .int .i64 t290, .int .i64 t292, .int .i64 t294, .int .i64 1000, .int .i64 1001, .int .i64 (-1), .int .i64 (-9223372036854775808)]) (ok := fun _ => True) (okp := fun _ => True) ?hr ?hp (fun _ hk => hk) trivial (Below.refl _ _) (Nat.le_refl _) (by simp) ?_; (case hd => rfl); (case hg => rfl); (case hr => first | (go_simp; done) | (go_simp; rfl)); (case hp => exact (Reps.one (show Kd.M (Kd.int .i64) _ _ _ t288 [.int .i64 t288] from rfl) (Reps.one (show Kd.M (Kd.int .i64) _ _ _ t290 [.int .i64 t290] from rfl) (Reps.one (show Kd.M (Kd.int .i64) _ _ _ t292 [.int .i64 t292] from rfl) (Reps.one (show Kd.M (Kd.int .i64) _ _ _ t294 [.int .i64 t294] from rfl) (Reps.one (show Kd.M (Kd.int .i64) _ _ _ 1000 [.int .i64 1000] from rfl) (Reps.one (show Kd.M (Kd.int .i64) _ _ _ 1001 [.int .i64 1001] from rfl) (Reps.one (show Kd.M (Kd.int .i64) _ _ _ (-1) [.int .i64 (-1)] from rfl) (Reps.one (show Kd.M (Kd.int .i64) _ _ _ (-9223372036854775808) [.int .i64 (-9223372036854775808)] from rfl) (Reps.none _ _))))))))))
                  intro v297 w42 ho43 hb hg_ hnew_
                  clear hg_ hnew_
                  (first | rw [← Ny296.out] at ho43 | (simp only [Int.reduceToNat] at ho43; rw [← Ny296.out] at ho43))
                  have n0_ := Aside0.mk (Kd.R_below (by (with_reducible repeat (first | apply Kd.R_alloc | apply Kd.R_drewN | apply Kd.R_drew)); exact HO_5.out) hb)
                  have n1_ := Aside0.mk (Kd.R_lower ho43 (below_size (by repeat (first | (with_reducible first | exact HB.out | apply below_alloc | apply pw_below_drewN | apply below_drew1) | exact HB.out))))
                  have n3_ := Aside0.mk (below_step (by repeat (first | (with_reducible first | exact HB.out | apply below_alloc | apply pw_below_drewN | apply below_drew1) | exact HB.out)) hb)
                  have z_HI272_e8 := fun (h0_ : b 8 = true) (h1_ : b 11 = false) => (show IsS105 w w42 g272 t270 t295 from by first | exact (IsS105.below (by repeat (first | (with_reducible first | exact (Q_HI272_e8 h0_ h1_) | apply IsS105.alloc | apply IsS105.drewN | apply IsS105.drew | apply IsS105.set_1) | exact (Q_HI272_e8 h0_ h1_))) hb))
                  have z_HI272_e11 := fun (h0_ : b 11 = true) => (show IsS105 w w42 g272 t270 t300 from by first | exact (IsS105.below (by repeat (first | (with_reducible first | exact (Q_HI272_e11 h0_) | apply IsS105.alloc | apply IsS105.drewN | apply IsS105.drew | apply IsS105.set_1) | exact (Q_HI272_e11 h0_))) hb))
                  clear HO_5
                  clear HB
                  have HO_5 := n0_
                  have HO298 := n1_
                  have HB := n3_
                  clear n0_ n1_ n3_
                  clear hb ho43
                  obtain ⟨Ao44, co44, eo44⟩ := Kd.R_slice HO298.out
                  subst eo44
                  obtain ⟨ado44, fo44, _⟩ := Kd.at_int (Kd.R_reads' HO298.out).2.2 0 (by decide) (by rw [Ny296.out]; simp)
                  cases fo44
                  refine hK.out _ _ ⟨.slice (some ado44) y296.length co44, ado44, m12_, (by rw [ha.out]; exact putSel_upk 4 hb_ rfl rfl rfl), (by (with_reducible repeat (first | apply Kd.R_alloc | apply Kd.R_drewN | apply Kd.R_drew)); exact HO_5.out), fun h0_ => absurd ((hon 2 (by kernel_rfl)).symm.trans h0_) (by decide), (by repeat (first | (with_reducible first | exact HB.out | apply below_alloc | apply pw_below_drewN | apply below_drew1) | exact HB.out)), fun _ h1_ => absurd ((hon 4 (by kernel_rfl)).symm.trans h1_) (by decide), fun _ h1_ => absurd ((hon 6 (by kernel_rfl)).symm.trans h1_) (by decide), fun _ h1_ => absurd ((hon 8 (by kernel_rfl)).symm.trans h1_) (by decide), z_HI272_e8, fun _ => (by (with_reducible repeat (first | apply Kd.R_alloc | apply Kd.R_drewN | apply Kd.R_drew)); exact HO298.out), fun _ => ⟨_, rfl⟩, z_HI272_e11, fun h0_ => absurd ((hoff 12 (by kernel_rfl)).symm.trans h0_) (by decide)⟩
                refine steps_cons ?_ ?_
                · rintro b a w' ⟨v297, adz_v297, m12_, ha, Q_HO_5, Q_HI272, Q_HB, Q_HI272_e2, Q_HI272_e4, Q_HI272_e6, Q_HI272_e8, Q_HO298, Q_HA_HO298, Q_HI272_e11, Q_X12_⟩ hb_ hon hoff
                  refine ⟨_, rfl, fun K hK => ?_⟩
                  have e40 : a.tmps[40]? = some (.pointer (some ⟨g272, 0, none⟩)) := by rw [ha]; exact (putSel_off rfl).trans rfl
                  replace ha := Aside0.mk ha
                  have HO_5 := Aside0.mk Q_HO_5
                  have HB := Aside0.mk Q_HB
                  have HI272 := Aside0.mk (Q_HI272_e8 (hon 8 (by kernel_rfl)) hb_)
                  refine goes_ Try.func53 (by kernel_rfl) rfl #[.pointer (some ⟨g272, 0, none⟩), .int .i64 8] (by rfl) rfl rfl (by first | (simp only [List.map_toArray, List.map_cons, List.map_nil, Act.eval, Array.getD_eq_getD_getElem?, Option.getD_some, e40]; done) | (simp only [List.map_toArray, List.map_cons, List.map_nil, Act.eval, Array.getD_eq_getD_getElem?, Option.getD_some, e40]; rfl)) ?_
                  with_reducible refine (spec_l20Rd_pick.calls kj11 g272 t270 t295 8 t299 t300 w _ ?side1 ?side2 A33.out).mono ?_
                  (case side1 => repeat (first | (with_reducible first | exact HI272.out | apply IsS105.alloc | apply IsS105.drewN | apply IsS105.drew | apply IsS105.set_1) | exact HI272.out))
                  (case side2 => repeat (first | (with_reducible first | exact HB.out | apply below_alloc | apply pw_below_drewN | apply below_drew1 | refine below_set ?_ (IsS105.ge HI272.out)) | exact HB.out))
                  rintro e w42 ⟨rfl, hi, hb, hk⟩
                  refine ⟨_, rfl, ?_⟩
                  have n0_ := Aside0.mk (Kd.R_mono (Kd.R_keep (IsS105.apart (show IsS105 w _ g272 t270 t295 from by repeat (first | (with_reducible first | exact HI272.out | apply IsS105.alloc | apply IsS105.drewN | apply IsS105.drew | apply IsS105.set_1) | exact HI272.out)) (by (with_reducible repeat (first | apply Kd.R_alloc | apply Kd.R_drewN | apply Kd.R_drew)); exact HO_5.out) (by decide)) hk (fun _ h => h.2)) (fun _ h => h.1))
                  have n1_ := Aside0.mk (hb)
                  have n2_ := Aside0.mk (hi)
                  have z_HO298 := fun (h0_ : b 9 = true) => (show Kd.R (Kd.int .i64) 3 w42 w.heap.size (fun _ => True) v297 y296 from by first | exact (Kd.R_mono (Kd.R_keep (IsS105.apart (show IsS105 w _ g272 t270 t295 from by repeat (first | (with_reducible first | exact HI272.out | apply IsS105.alloc | apply IsS105.drewN | apply IsS105.drew | apply IsS105.set_1) | exact HI272.out)) (by (with_reducible repeat (first | apply Kd.R_alloc | apply Kd.R_drewN | apply Kd.R_drew)); exact (Q_HO298 h0_)) (by decide)) hk (fun _ h => h.2)) (fun _ h => h.1)) | exact Kd.R_mono (Kd.R_mono (Kd.R_keep (IsS105.apart (show IsS105 w _ g272 t270 t295 from by repeat (first | (with_reducible first | exact HI272.out | apply IsS105.alloc | apply IsS105.drewN | apply IsS105.drew | apply IsS105.set_1) | exact HI272.out)) (by (with_reducible repeat (first | apply Kd.R_alloc | apply Kd.R_drewN | apply Kd.R_drew)); exact (Q_HO298 h0_)) (by decide)) hk (fun _ h => h.2)) (fun _ h => h.1)) (fun _ h_ => by first | trivial | exact h_ | exact h_.1))
                  clear HO_5
                  clear HB
                  clear HI272
                  have HO_5 := n0_
                  have HB := n1_
                  have HI272 := n2_
                  clear n0_ n1_ n2_
                  (try clear hb)
                  (try clear hb2)
                  (try clear hk)
                  (try clear hi)
                  refine hK.out _ _ ⟨v297, adz_v297, m12_, (by rw [ha.out]; exact putSel_upk 5 hb_ rfl rfl rfl), (by (with_reducible repeat (first | apply Kd.R_alloc | apply Kd.R_drewN | apply Kd.R_drew)); exact HO_5.out), fun h0_ => absurd ((hon 2 (by kernel_rfl)).symm.trans h0_) (by decide), (by repeat (first | (with_reducible first | exact HB.out | apply below_alloc | apply pw_below_drewN | apply below_drew1 | refine below_set ?_ (IsS105.ge HI272.out)) | exact HB.out)), fun _ h1_ => absurd ((hon 4 (by kernel_rfl)).symm.trans h1_) (by decide), fun _ h1_ => absurd ((hon 6 (by kernel_rfl)).symm.trans h1_) (by decide), fun _ h1_ => absurd ((hon 8 (by kernel_rfl)).symm.trans h1_) (by decide), fun _ h1_ => absurd ((up_self b 11).symm.trans h1_) (by decide), z_HO298, Q_HA_HO298, fun _ => (by repeat (first | (with_reducible first | exact HI272.out | apply IsS105.alloc | apply IsS105.drewN | apply IsS105.drew | apply IsS105.set_1) | exact HI272.out)), fun h0_ => absurd ((hoff 12 (by kernel_rfl)).symm.trans h0_) (by decide)⟩
                refine steps_cons ?_ ?_
                · rintro b a w' ⟨v297, adz_v297, m12_, ha, Q_HO_5, Q_HI272, Q_HB, Q_HI272_e2, Q_HI272_e4, Q_HI272_e6, Q_HI272_e8, Q_HO298, Q_HA_HO298, Q_HI272_e11, Q_X12_⟩ hb_ hon hoff
                  refine ⟨_, rfl, fun K hK => ?_⟩
                  have e39 : a.tmps[39]? = some (v297) := by rw [ha]; exact putSel_on (e := (9, 39, v297)) 4 rfl rfl (hon 9 (by kernel_rfl)) rfl
                  have e41 : a.tmps[41]? = some (.int .i64 t299) := by rw [ha]; exact putSel_on (e := (11, 41, .int .i64 t299)) 5 rfl rfl (hon 11 (by kernel_rfl)) rfl
                  replace ha := Aside0.mk ha
                  have HO_5 := Aside0.mk Q_HO_5
                  have HB := Aside0.mk Q_HB
                  have HO298 := Aside0.mk (Q_HO298 (hon 9 (by kernel_rfl)))
                  have HA_HO298 := Aside0.mk (Q_HA_HO298 (hon 9 (by kernel_rfl)))
                  have HI272 := Aside0.mk (Q_HI272_e11 (hon 11 (by kernel_rfl)))
                  obtain ⟨c_, hv_⟩ := HA_HO298.out
                  rw [hv_] at e39
                  refine value_ (w1 := w') (v := .pointer (some (adz_v297.add (t299).toNat))) (by rfl) rfl ?_ ?_
                  · go_simp
                    (try simp only [i64_w])
                    try rfl
                  refine hK.out _ _ ⟨v297, adz_v297, (.pointer (some (adz_v297.add (t299).toNat))), (by rw [ha.out]; exact putSel_upk 6 hb_ rfl rfl rfl), Q_HO_5, fun h0_ => absurd ((hon 2 (by kernel_rfl)).symm.trans h0_) (by decide), Q_HB, fun _ h1_ => absurd ((hon 4 (by kernel_rfl)).symm.trans h1_) (by decide), fun _ h1_ => absurd ((hon 6 (by kernel_rfl)).symm.trans h1_) (by decide), fun _ h1_ => absurd ((hon 8 (by kernel_rfl)).symm.trans h1_) (by decide), fun _ h1_ => absurd ((hon 11 (by kernel_rfl)).symm.trans h1_) (by decide), Q_HO298, Q_HA_HO298, Q_HI272_e11, fun _ => rfl⟩
                refine steps_cons ?_ ?_
                · rintro b a w' ⟨v297, adz_v297, m12_, ha, Q_HO_5, Q_HI272, Q_HB, Q_HI272_e2, Q_HI272_e4, Q_HI272_e6, Q_HI272_e8, Q_HO298, Q_HA_HO298, Q_HI272_e11, Q_X12_⟩ hb_ hon hoff
                  refine ⟨_, rfl, fun K hK => ?_⟩
                  have e42 : a.tmps[42]? = some (m12_) := by rw [ha]; exact putSel_on (e := (12, 42, m12_)) 6 rfl rfl (hon 12 (by kernel_rfl)) rfl
                  rw [Q_X12_ (hon 12 (by kernel_rfl))] at e42
                  replace ha := Aside0.mk ha
                  have HO_5 := Aside0.mk Q_HO_5
                  have HB := Aside0.mk Q_HB
                  have HO298 := Aside0.mk (Q_HO298 (hon 9 (by kernel_rfl)))
                  have HA_HO298 := Aside0.mk (Q_HA_HO298 (hon 9 (by kernel_rfl)))
                  have HI272 := Aside0.mk (Q_HI272_e11 (hon 11 (by kernel_rfl)))
                  obtain ⟨c_, hv_⟩ := HA_HO298.out
                  have hF_ := HO298.out
                  rw [hv_] at hF_
                  obtain ⟨ad_, ea_, hx_⟩ := Kd.at_int (Kd.R_reads' hF_).2.2 t299 (of_eq_true pi301) (of_eq_true qi301)
                  cases ea_
                  refine value_ (w1 := w') (v := .int .i64 (rd y296 t299)) (by rfl) rfl ?_ ?_
                  · go_simp
                    (try simp only [i64_w])
                    try rfl
                  refine hK.out _ _ ⟨v297, adz_v297, m12_, (by rw [ha.out]; exact putSel_upk 7 hb_ rfl rfl rfl), Q_HO_5, fun h0_ => absurd ((hon 2 (by kernel_rfl)).symm.trans h0_) (by decide), Q_HB, fun _ h1_ => absurd ((hon 4 (by kernel_rfl)).symm.trans h1_) (by decide), fun _ h1_ => absurd ((hon 6 (by kernel_rfl)).symm.trans h1_) (by decide), fun _ h1_ => absurd ((hon 8 (by kernel_rfl)).symm.trans h1_) (by decide), fun _ h1_ => absurd ((hon 11 (by kernel_rfl)).symm.trans h1_) (by decide), Q_HO298, Q_HA_HO298, Q_HI272_e11, Q_X12_⟩
                refine steps_cons ?_ ?_
                · rintro b a w' ⟨v297, adz_v297, m12_, ha, Q_HO_5, Q_HI272, Q_HB, Q_HI272_e2, Q_HI272_e4, Q_HI272_e6, Q_HI272_e8, Q_HO298, Q_HA_HO298, Q_HI272_e11, Q_X12_⟩ hb_ hon hoff
                  refine ⟨_, rfl, fun K hK => ?_⟩
                  have e30 : a.tmps[30]? = some (v274) := by rw [ha]; exact (putSel_off rfl).trans rfl
                  replace ha := Aside0.mk ha
                  have HO_5 := Aside0.mk Q_HO_5
                  have HB := Aside0.mk Q_HB
                  have HI272 := Aside0.mk (Q_HI272_e11 (hon 11 (by kernel_rfl)))
                  refine value_ (w1 := w') (v := v274) (by rfl) rfl ?_ ?_
                  · go_simp
                    (try simp only [i64_w])
                    try rfl
                  refine hK.out _ _ ⟨v297, adz_v297, m12_, (by rw [ha.out]; exact putSel_upk 8 hb_ rfl rfl rfl), Q_HO_5, fun h0_ => absurd ((hon 2 (by kernel_rfl)).symm.trans h0_) (by decide), Q_HB, fun _ h1_ => absurd ((hon 4 (by kernel_rfl)).symm.trans h1_) (by decide), fun _ h1_ => absurd ((hon 6 (by kernel_rfl)).symm.trans h1_) (by decide), fun _ h1_ => absurd ((hon 8 (by kernel_rfl)).symm.trans h1_) (by decide), fun _ h1_ => absurd ((hon 11 (by kernel_rfl)).symm.trans h1_) (by decide), Q_HO298, Q_HA_HO298, Q_HI272_e11, Q_X12_⟩
                refine steps_cons ?_ ?_
                · rintro b a w' ⟨v297, adz_v297, m12_, ha, Q_HO_5, Q_HI272, Q_HB, Q_HI272_e2, Q_HI272_e4, Q_HI272_e6, Q_HI272_e8, Q_HO298, Q_HA_HO298, Q_HI272_e11, Q_X12_⟩ hb_ hon hoff
                  refine ⟨_, rfl, fun K hK => ?_⟩
                  have e43 : a.tmps[43]? = some (.int .i64 (rd y296 t299)) := by rw [ha]; exact putSel_on (e := (13, 43, .int .i64 (rd y296 t299))) 7 rfl rfl (hon 13 (by kernel_rfl)) rfl
                  replace ha := Aside0.mk ha
                  have HO_5 := Aside0.mk Q_HO_5
                  have HB := Aside0.mk Q_HB
                  have HO298 := Aside0.mk (Q_HO298 (hon 9 (by kernel_rfl)))
                  have HA_HO298 := Aside0.mk (Q_HA_HO298 (hon 9 (by kernel_rfl)))
                  have HI272 := Aside0.mk (Q_HI272_e11 (hon 11 (by kernel_rfl)))
                  refine value_ (w1 := w') (v := .int .i64 (rd y296 t299)) (by rfl) rfl ?_ ?_
                  · go_simp
                    (try simp only [i64_w])
                    try rfl
                  refine hK.out _ _ ⟨v297, adz_v297, m12_, (by rw [ha.out]; exact putSel_upk 9 hb_ rfl rfl rfl), Q_HO_5, fun h0_ => absurd ((hon 2 (by kernel_rfl)).symm.trans h0_) (by decide), Q_HB, fun _ h1_ => absurd ((hon 4 (by kernel_rfl)).symm.trans h1_) (by decide), fun _ h1_ => absurd ((hon 6 (by kernel_rfl)).symm.trans h1_) (by decide), fun _ h1_ => absurd ((hon 8 (by kernel_rfl)).symm.trans h1_) (by decide), fun _ h1_ => absurd ((hon 11 (by kernel_rfl)).symm.trans h1_) (by decide), Q_HO298, Q_HA_HO298, Q_HI272_e11, Q_X12_⟩
                exact steps_nil
              rintro b a w45 hall ⟨v297, adz_v297, m12_, ha, Q_HO_5, Q_HI272, Q_HB, Q_HI272_e2, Q_HI272_e4, Q_HI272_e6, Q_HI272_e8, Q_HO298, Q_HA_HO298, Q_HI272_e11, Q_X12_⟩
              clear HB HI272 HO_5
              have hb2_ := hall 2 (by kernel_rfl)
              have hb4_ := hall 4 (by kernel_rfl)
              have hb6_ := hall 6 (by kernel_rfl)
              have hb8_ := hall 8 (by kernel_rfl)
              have hb9_ := hall 9 (by kernel_rfl)
              have hb11_ := hall 11 (by kernel_rfl)
              have hb12_ := hall 12 (by kernel_rfl)
              have hb13_ := hall 13 (by kernel_rfl)
              have hb14_ := hall 14 (by kernel_rfl)
              have hb15_ := hall 15 (by kernel_rfl)
              subst ha
              obtain rfl := Q_X12_ hb12_
              simp only [putSel, hb2_, hb4_, hb6_, hb8_, hb9_, hb11_, hb12_, hb13_, hb14_, hb15_, if_true, Act.put, List.setIfInBounds_toArray, List.set_cons_zero, List.set_cons_succ]
              have HO_5 := Aside0.mk Q_HO_5
              clear Q_HO_5
              clear Q_HI272
              have HB := Aside0.mk Q_HB
              clear Q_HB
              clear Q_HI272_e2
              clear Q_HI272_e4
              clear Q_HI272_e6
              clear Q_HI272_e8
              have HO298 := Aside0.mk (Q_HO298 hb9_)
              clear Q_HO298
              have HA_HO298 := Aside0.mk (Q_HA_HO298 hb9_)
              clear Q_HA_HO298
              have HI272 := Aside0.mk (Q_HI272_e11 hb11_)
              clear Q_HI272_e11
              clear hall hb2_ hb4_ hb6_ hb8_ hb9_ hb11_ hb12_ hb13_ hb14_ hb15_
              obtain ⟨co46, eo46⟩ := HA_HO298.out
              clear HA_HO298
              subst eo46
              try go_wp2
              go_ret2
              exact ⟨_, by first | rfl | (simp [errW_none, errW_some] <;> rfl) | (simp [*, errW_none, errW_some] <;> rfl), by (with_reducible repeat (first | apply Kd.R_alloc | apply Kd.R_drewN | apply Kd.R_drew)); exact HO_5.out, by repeat (first | (with_reducible first | exact HB.out | apply below_alloc | apply pw_below_drewN | apply below_drew1 | refine below_set ?_ (IsS105.ge HI272.out)) | exact HB.out)⟩
            · rw [if_neg c35] at H
              exact absurd H (by simp)
          · rw [if_neg c34] at H
            exact absurd H (by simp)

/-! ### impl_in: function 60 -/
def impl_in.f (a0 : Int) (a1 : Int) (a2 : Int) : Option (Bool) := if a0 ≥ a1 then (some (decide (a0 ≤ a2))) else (some false)
set_option maxHeartbeats 8000000 in
set_option maxRecDepth 100000 in
theorem impl_in.calls (a0 : Int) (a1 : Int) (a2 : Int) (r : Bool) (w : World) (h : impl_in.f a0 a1 a2 = some r) :
    Calls Try.prog 60 #[.int .i64 a0, .int .i64 a1, .int .i64 a2] w fun e w' => e = .returned (.bool r) ∧ Drawn0 w w' := by
  have H : (if a0 ≥ a1 then (some (decide (a0 ≤ a2))) else (some false)) = some r := h
  clear h
  by_cases c4 : a0 ≥ a1
  · rw [if_pos c4] at H
    have c4b0 : decide (a1 ≤ a0) = true := decide_eq_true c4
    clear c4
    obtain rfl := Option.some.inj H
    go_enter Try.func60, Try.ntmps60
    go_wp2
    go_ret
    exact ⟨by first | rfl | (simp; done) | (simp [*]; done), by repeat (first | exact Drawn0.refl _ | apply Drawn0.step)⟩
  · rw [if_neg c4] at H
    have c4b0 : decide (a1 ≤ a0) = false := decide_eq_false c4
    clear c4
    obtain rfl := Option.some.inj H
    go_enter Try.func60, Try.ntmps60
    go_wp2
    go_ret
    exact ⟨by first | rfl | (simp; done) | (simp [*]; done), by repeat (first | exact Drawn0.refl _ | apply Drawn0.step)⟩

/-! ### impl_isTime: function 54 -/
def impl_isTime.f (a0 : Int) : Option (Bool) := (impl_in.f a0 0 1000).bind fun t302 => (some t302)
set_option maxHeartbeats 8000000 in
set_option maxRecDepth 100000 in
theorem impl_isTime.calls (a0 : Int) (r : Bool) (w : World) (h : impl_isTime.f a0 = some r) :
    Calls Try.prog 54 #[.int .i64 a0] w fun e w' => e = .returned (.bool r) ∧ Drawn0 w w' := by
  have H : ((impl_in.f a0 0 1000).bind fun t302 => (some t302)) = some r := h
  clear h
  replace H := Option.bind_eq_some_iff.mp H
  obtain ⟨t302, A20, H⟩ := H
  replace H : (some t302) = some r := H
  have A2 := Aside0.mk A20
  clear A20
  obtain rfl := Option.some.inj H
  go_enter Try.func54, Try.ntmps54
  go_wp2_with (first | ((with_reducible refine gate_callee (f := 60) rfl ?_); refine goesL_ (some 4) rfl rfl Try.func60 (by kernel_rfl) rfl #[.int .i64 a0, .int .i64 0, .int .i64 1000] rfl (by (try simp only [List.map_toArray, List.map_cons, List.map_nil]); first | done | rfl | (simp only [List.length_drop, List.length_take]; rfl)) ?_; (with_reducible refine (impl_in.calls a0 0 1000 t302 _ A2.out).mono ?_); rintro e w' ⟨rfl, ⟨nd, rfl⟩⟩; refine ⟨_, rfl, ?_⟩))
  go_ret
  exact ⟨by first | rfl | (simp; done) | (simp [*]; done), by repeat (first | exact Drawn0.refl _ | apply Drawn0.step)⟩

end Go.Proofs.Ytofhaglklhmilaa.PFnLogPunctual
