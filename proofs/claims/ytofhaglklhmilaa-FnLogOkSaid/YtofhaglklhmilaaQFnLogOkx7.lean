/- Functions of the program as Lean functions, with their contracts, written by a program of mine over the kit's printer and in part by hand. No condition of its own. -/
import Derived.Test.YtofhaglklhmilaaQFnLogOkx0
import Derived.Test.YtofhaglklhmilaaQFnLogOkx4
import Derived.Test.YtofhaglklhmilaaQFnLogOkx5
import Derived.Test.YtofhaglklhmilaaQFnLogOkx6
namespace Go.Proofs.Ytofhaglklhmilaa.PFnLogOk
open Go.RowKit Go.Proofs.YtofhaglklhmilaaW.PrintWords Go.Proofs.YtofhaglklhmilaaW.PrintLast Go.Proofs.YtofhaglklhmilaaW.PrintMore
attribute [local go_sem] max2_int min2_int max_two min_two max_three min_three max_four min_four   -- for this text's walks alone
set_option linter.unusedVariables false
set_option linter.unusedSimpArgs false

/-! ### laws_FnLogOk: function 6 -/
mutual
def laws_FnLogOk.j0 : Nat → List (S47) → Bool → Option (Bool)
  | 0, _, _ => none
  | k + 1, x3, x4 => laws_FnLogOk.l0 k x3 x4 0 0
def laws_FnLogOk.l0 : Nat → List (S47) → Bool → Int → Int → Option (Bool)
  | 0, _, _, _, _ => none
  | k + 1, x3, x4, x5, x6 => if x6 < (x3.length : Int) then (if 0 ≤ x6 then (if x4 = true then ((impl_ItmOk.f ((rd_T47 x3 x6).f0) ((rd_T47 x3 x6).f1) ((rd_T47 x3 x6).f2) ((rd_T47 x3 x6).f3) ((rd_T47 x3 x6).f4)).bind fun t307 => (if t307 = true then (if ((rd_T47 x3 x6).f0) = 3 then (if ((rd_T47 x3 x6).f0) = 2 then (if ((rd_T47 x3 x6).f1) > x5 then (laws_FnLogOk.l0 k x3 false ((rd_T47 x3 x6).f1) (wrap64 (x6 + 1))) else (laws_FnLogOk.l0 k x3 false x5 (wrap64 (x6 + 1)))) else (laws_FnLogOk.l0 k x3 false x5 (wrap64 (x6 + 1)))) else (if ((rd_T47 x3 x6).f0) = 2 then (if ((rd_T47 x3 x6).f1) > x5 then (laws_FnLogOk.l0 k x3 (decide (((rd_T47 x3 x6).f1) > x5)) ((rd_T47 x3 x6).f1) (wrap64 (x6 + 1))) else (laws_FnLogOk.l0 k x3 (decide (((rd_T47 x3 x6).f1) > x5)) x5 (wrap64 (x6 + 1)))) else (laws_FnLogOk.l0 k x3 true x5 (wrap64 (x6 + 1))))) else (if ((rd_T47 x3 x6).f0) = 2 then (if ((rd_T47 x3 x6).f1) > x5 then (laws_FnLogOk.l0 k x3 false ((rd_T47 x3 x6).f1) (wrap64 (x6 + 1))) else (laws_FnLogOk.l0 k x3 false x5 (wrap64 (x6 + 1)))) else (laws_FnLogOk.l0 k x3 false x5 (wrap64 (x6 + 1)))))) else (if ((rd_T47 x3 x6).f0) = 2 then (if ((rd_T47 x3 x6).f1) > x5 then (laws_FnLogOk.l0 k x3 false ((rd_T47 x3 x6).f1) (wrap64 (x6 + 1))) else (laws_FnLogOk.l0 k x3 false x5 (wrap64 (x6 + 1)))) else (laws_FnLogOk.l0 k x3 false x5 (wrap64 (x6 + 1))))) else (none)) else (if x4 = true then (if 0 ≤ (wrap64 ((x3.length : Int) - 1)) then (if (wrap64 ((x3.length : Int) - 1)) < (x3.length : Int) then (if ((rd_T47 x3 (wrap64 ((x3.length : Int) - 1))).f0) = 2 then (laws_FnLogOk.j2 k x3 (((rd_T47 x3 (wrap64 ((x3.length : Int) - 1))).f1) == 1000)) else (laws_FnLogOk.j2 k x3 false)) else (none)) else (none)) else (laws_FnLogOk.j2 k x3 false))
def laws_FnLogOk.j2 : Nat → List (S47) → Bool → Option (Bool)
  | 0, _, _ => none
  | k + 1, x3, x4 => (impl_LogOk.f k x3).bind fun t310 => (if (t310 == x4) = true then ((impl_LogOk.f k x3).bind fun t311 => ((spec_LogOk.f k x3).bind fun t312 => (if (t311 == t312) = true then ((impl_LogOk.f k (([(⟨2, 1000, 0, 0, 0⟩ : S47)] : List (S47)))).bind fun t316 => (some t316)) else (some false)))) else (some false))
end
def laws_FnLogOk.f (k : Nat) (l0 : List Int) : Option (Bool) := if (l0.length : Int) > 1048576 then (some true) else ((spec_DrawLogOk.f k l0).bind fun t302 => (if (t302.length : Int) > 0 then (laws_FnLogOk.j0 k t302 (decide ((t302.length : Int) ≤ 40))) else (laws_FnLogOk.j0 k t302 false)))
theorem laws_FnLogOk.mono_l : ∀ k, (∀ y0 y1, LeO (laws_FnLogOk.j0 k y0 y1) (laws_FnLogOk.j0 (k + 1) y0 y1)) ∧ (∀ y0 y1 y2 y3, LeO (laws_FnLogOk.l0 k y0 y1 y2 y3) (laws_FnLogOk.l0 (k + 1) y0 y1 y2 y3)) ∧ (∀ y0 y1, LeO (laws_FnLogOk.j2 k y0 y1) (laws_FnLogOk.j2 (k + 1) y0 y1))
  | 0 => ⟨fun _ _ r h => by simp [laws_FnLogOk.j0] at h, fun _ _ _ _ r h => by simp [laws_FnLogOk.l0] at h, fun _ _ r h => by simp [laws_FnLogOk.j2] at h⟩
  | k + 1 => by
    obtain ⟨ih0, ih1, ih2⟩ := laws_FnLogOk.mono_l k
    refine ⟨?_, ?_, ?_⟩
    · intro y0 y1
      unfold laws_FnLogOk.j0
      repeat' first
      | (with_reducible exact ih0 _ _)
      | (with_reducible exact ih1 _ _ _ _)
      | (with_reducible exact ih2 _ _)
      | (with_reducible exact impl_LogOk.mono _ _)
      | (with_reducible exact spec_DrawLogOk.mono _ _)
      | (with_reducible exact spec_LogOk.mono _ _)
      | (with_reducible exact LeO.refl _)
      | (with_reducible exact LeO.none _)
      | (with_reducible refine LeO.ite ?_ ?_)
      | (with_reducible refine LeO.bind ?_ (fun _ => ?_))
      | exact ih0 _ _
      | exact ih1 _ _ _ _
      | exact ih2 _ _
      | exact impl_LogOk.mono _ _
      | exact spec_DrawLogOk.mono _ _
      | exact spec_LogOk.mono _ _
      | exact LeO.none _
      | refine LeO.ite ?_ ?_
      | refine LeO.bind ?_ (fun _ => ?_)
    · intro y0 y1 y2 y3
      unfold laws_FnLogOk.l0
      repeat' first
      | (with_reducible exact ih0 _ _)
      | (with_reducible exact ih1 _ _ _ _)
      | (with_reducible exact ih2 _ _)
      | (with_reducible exact impl_LogOk.mono _ _)
      | (with_reducible exact spec_DrawLogOk.mono _ _)
      | (with_reducible exact spec_LogOk.mono _ _)
      | (with_reducible exact LeO.refl _)
      | (with_reducible exact LeO.none _)
      | (with_reducible refine LeO.ite ?_ ?_)
      | (with_reducible refine LeO.bind ?_ (fun _ => ?_))
      | exact ih0 _ _
      | exact ih1 _ _ _ _
      | exact ih2 _ _
      | exact impl_LogOk.mono _ _
      | exact spec_DrawLogOk.mono _ _
      | exact spec_LogOk.mono _ _
      | exact LeO.none _
      | refine LeO.ite ?_ ?_
      | refine LeO.bind ?_ (fun _ => ?_)
    · intro y0 y1
      unfold laws_FnLogOk.j2
      repeat' first
      | (with_reducible exact ih0 _ _)
      | (with_reducible exact ih1 _ _ _ _)
      | (with_reducible exact ih2 _ _)
      | (with_reducible exact impl_LogOk.mono _ _)
      | (with_reducible exact spec_DrawLogOk.mono _ _)
      | (with_reducible exact spec_LogOk.mono _ _)
      | (with_reducible exact LeO.refl _)
      | (with_reducible exact LeO.none _)
      | (with_reducible refine LeO.ite ?_ ?_)
      | (with_reducible refine LeO.bind ?_ (fun _ => ?_))
      | exact ih0 _ _
      | exact ih1 _ _ _ _
      | exact ih2 _ _
      | exact impl_LogOk.mono _ _
      | exact spec_DrawLogOk.mono _ _
      | exact spec_LogOk.mono _ _
      | exact LeO.none _
      | refine LeO.ite ?_ ?_
      | refine LeO.bind ?_ (fun _ => ?_)
theorem laws_FnLogOk.mono : ∀ a0 k, LeO (laws_FnLogOk.f k a0) (laws_FnLogOk.f (k + 1) a0) := by
  intro a0 k
  obtain ⟨ih0, ih1, ih2⟩ := laws_FnLogOk.mono_l k
  unfold laws_FnLogOk.f
  repeat' first
      | (with_reducible exact ih0 _ _)
      | (with_reducible exact ih1 _ _ _ _)
      | (with_reducible exact ih2 _ _)
      | (with_reducible exact impl_LogOk.mono _ _)
      | (with_reducible exact spec_DrawLogOk.mono _ _)
      | (with_reducible exact spec_LogOk.mono _ _)
      | (with_reducible exact LeO.refl _)
      | (with_reducible exact LeO.none _)
      | (with_reducible refine LeO.ite ?_ ?_)
      | (with_reducible refine LeO.bind ?_ (fun _ => ?_))
      | exact ih0 _ _
      | exact ih1 _ _ _ _
      | exact ih2 _ _
      | exact impl_LogOk.mono _ _
      | exact spec_DrawLogOk.mono _ _
      | exact spec_LogOk.mono _ _
      | exact LeO.none _
      | refine LeO.ite ?_ ?_
      | refine LeO.bind ?_ (fun _ => ?_)
set_option maxHeartbeats 8000000 in
set_option maxRecDepth 100000 in
theorem laws_FnLogOk.calls (k : Nat) (A0 : Option Addr) (c0 : Nat) (l0 : List Int) (w : World) (hr0 : Kd.C (Kd.int .u8) w A0 l0.length l0) (hc0 : l0.length ≤ c0) (h : laws_FnLogOk.f k l0 = some true) :
    Calls Try.prog 6 #[.slice A0 l0.length c0] w fun e w' => e = .returned (.bool true) ∧ Below w.heap.size w w' := by
  have hu47 := Try.underlying47
  have HR0 := Aside0.mk hr0
  have HC0 := Aside0.mk hc0
  clear hr0 hc0
  have HB := Aside0.mk (Below.refl w.heap.size w)
  have H : (if (l0.length : Int) > 1048576 then (some true) else ((spec_DrawLogOk.f k l0).bind fun t302 => (if (t302.length : Int) > 0 then (laws_FnLogOk.j0 k t302 (decide ((t302.length : Int) ≤ 40))) else (laws_FnLogOk.j0 k t302 false)))) = some true := h
  clear h
  by_cases c2 : (l0.length : Int) > 1048576
  · rw [if_pos c2] at H
    have c2b0 : decide (1048576 < (l0.length : Int)) = true := decide_eq_true c2
    have c2b1 : decide (1048576 < l0.length) = true := decide_eq_true (by omega)
    clear c2
    clear H
    go_enter Try.func6, Try.ntmps6
    go_wp2
    go_ret
    exact ⟨by first | rfl | (refine congrArg (fun b_ => Ending.returned (Value.bool b_)) ?_; first | exact hrt_.out | simpa using hrt_.out | (have hq_ := hrt_.out; simp at hq_ ⊢; omega)) | (simp [errW_none, errW_some] <;> rfl) | (simp [*, errW_none, errW_some] <;> rfl), by repeat (first | (with_reducible first | exact HB.out | apply below_alloc | apply pw_below_drewN | apply below_drew1) | exact HB.out)⟩
  · rw [if_neg c2] at H
    have c2b0 : decide (1048576 < (l0.length : Int)) = false := decide_eq_false c2
    have c2b1 : decide (1048576 < l0.length) = false := decide_eq_false (by omega)
    clear c2
    replace H := Option.bind_eq_some_iff.mp H
    obtain ⟨t302, A30, H⟩ := H
    replace H : (if (t302.length : Int) > 0 then (laws_FnLogOk.j0 k t302 (decide ((t302.length : Int) ≤ 40))) else (laws_FnLogOk.j0 k t302 false)) = some true := H
    have A3 := Aside0.mk A30
    clear A30
    have HC4 := Aside0.mk H
    clear H
    go_enter Try.func6, Try.ntmps6
    go_upto_region 4 with (first | ((with_reducible refine gate_callee (f := 29) rfl ?_); refine goesL_ (some 12) rfl rfl Try.func29 (by kernel_rfl) rfl #[.slice A0 l0.length c0] rfl (by (try simp only [List.map_toArray, List.map_cons, List.map_nil]); first | done | rfl | (simp only [List.length_drop, List.length_take]; rfl)) ?_; (with_reducible refine (spec_DrawLogOk.calls k _ _ l0 t302 _ ?side1 ?side2 A3.out).mono ?_); (case side1 => repeat (first | exact HR0.out | (with_reducible refine Kd.C_alloc ?_ _) | (with_reducible refine Kd.C_drewN ?_ _) | (with_reducible refine Kd.C_drew ?_))); (case side2 => exact HC0.out); rintro e w5 ⟨v303, rfl, ho0, hb⟩; refine ⟨_, rfl, ?_⟩; have n0_ := Aside0.mk (Kd.R_lower ho0 (below_size (by repeat (first | (with_reducible first | exact HB.out | apply below_alloc | apply pw_below_drewN | apply below_drew1) | exact HB.out)))); have n1_ := Aside0.mk (below_step (by repeat (first | (with_reducible first | exact HB.out | apply below_alloc | apply pw_below_drewN | apply below_drew1) | exact HB.out)) hb); clear HB; have HO304 := n0_; have HB := n1_; clear n0_ n1_; (try clear hb); (try clear hb2); (try clear hk); (try clear hi); (try clear ho0)))
    (try simp only [Act.put, List.setIfInBounds_toArray, List.set_cons_zero, List.set_cons_succ])
    go_cut [4] (fun v4 wc => ∃ (kq : Nat) (x4_3 : Bool), v4 = .bool x4_3 ∧ Aside0 (laws_FnLogOk.j0 kq t302 x4_3 = some true) ∧ Aside0 (kq ≤ k) ∧ Aside0 (Kd.R k47 47 wc w.heap.size (fun _ => True) v303 t302) ∧ Aside0 (Below w.heap.size w wc))
    case first =>
      have H := HC4.out
      clear HC4
      by_cases c6 : (t302.length : Int) > 0
      · rw [if_pos c6] at H
        have c6b0 : decide (0 < (t302.length : Int)) = true := decide_eq_true c6
        have c6b1 : decide (0 < t302.length) = true := decide_eq_true (by omega)
        clear c6
        (first | rw [c6b0] | (simp only [i64_w, i32_w]; rw [c6b0]) | skip)
        have H' := Aside0.mk H
        clear H
        obtain ⟨Ao7, co7, eo7⟩ := Kd.R_slice HO304.out
        subst eo7
        go_wp2
        go_meet
        case rel => exact ⟨_, (decide ((t302.length : Int) ≤ 40)), (by first | rfl | (simp; done) | (simp [*]; done)), H', ⟨by first | omega | exact Nat.le_refl _⟩, ⟨by (with_reducible repeat (first | apply Kd.R_alloc | apply Kd.R_drewN | apply Kd.R_drew)); exact HO304.out⟩, ⟨by repeat (first | (with_reducible first | exact HB.out | apply below_alloc | apply pw_below_drewN | apply below_drew1) | exact HB.out)⟩⟩
      · rw [if_neg c6] at H
        have c6b0 : decide (0 < (t302.length : Int)) = false := decide_eq_false c6
        have c6b1 : decide (0 < t302.length) = false := decide_eq_false (by omega)
        clear c6
        (first | rw [c6b0] | (simp only [i64_w, i32_w]; rw [c6b0]) | skip)
        have H' := Aside0.mk H
        clear H
        obtain ⟨Ao8, co8, eo8⟩ := Kd.R_slice HO304.out
        subst eo8
        go_wp2
        go_meet
        case rel => exact ⟨_, (false), (by first | rfl | (simp; done) | (simp [*]; done)), H', ⟨by first | omega | exact Nat.le_refl _⟩, ⟨by (with_reducible repeat (first | apply Kd.R_alloc | apply Kd.R_drewN | apply Kd.R_drew)); exact HO304.out⟩, ⟨by repeat (first | (with_reducible first | exact HB.out | apply below_alloc | apply pw_below_drewN | apply below_drew1) | exact HB.out)⟩⟩
    case rest =>
      clear HC4
      try clear c2
      try clear c2b0
      try clear c2b1
      try clear p2
      try clear c6
      try clear c6b0
      try clear c6b1
      obtain ⟨kq, x4_3, rfl, HA, HJ3, HO_3, HB⟩ := hcut
      cases kq with
      | zero => exact absurd HA.out (by simp [laws_FnLogOk.j0])
      | succ kj3 =>
        have H := HA.out
        clear HA
        simp only [laws_FnLogOk.j0] at H
        have H' := Aside0.mk H
        clear H
        go_wp2
        go_loopg [4, 5, 6] kj3 (fun kq v4 v5 v6 w' => ∃ (x4_2 : Bool) (x5_2 : Int) (x6_2 : Int), v4 = .bool x4_2 ∧ v5 = .int .i64 x5_2 ∧ v6 = .int .i64 x6_2 ∧ Aside0 (laws_FnLogOk.l0 kq t302 x4_2 x5_2 x6_2 = some true) ∧ Aside0 (kq ≤ kj3) ∧ Aside0 (Kd.R k47 47 w' w.heap.size (fun _ => True) v303 t302) ∧ Aside0 (Below w.heap.size w w'))
        case atStart => exact ⟨(x4_3), (0), (0), (by first | rfl | (simp; done) | (simp [*]; done)), (by first | rfl | (simp; done) | (simp [*]; done)), (by first | rfl | (simp; done) | (simp [*]; done)), H', ⟨Nat.le_refl _⟩, ⟨by (with_reducible repeat (first | apply Kd.R_alloc | apply Kd.R_drewN | apply Kd.R_drew)); exact HO_3.out⟩, ⟨by repeat (first | (with_reducible first | exact HB.out | apply below_alloc | apply pw_below_drewN | apply below_drew1) | exact HB.out)⟩⟩
        case round =>
          clear H'
          try clear c2
          try clear c2b0
          try clear c2b1
          try clear p2
          try clear c6
          try clear c6b0
          try clear c6b1
          try clear p2
          obtain ⟨x4_2, x5_2, x6_2, rfl, rfl, rfl, HA, HK2, HO_3, HB⟩ := hrel
          cases gk with
          | zero => exact absurd HA.out (by simp [laws_FnLogOk.l0])
          | succ k2 =>
            have H := HA.out
            clear HA
            simp only [laws_FnLogOk.l0] at H
            by_cases c9 : x6_2 < (t302.length : Int)
            · rw [if_pos c9] at H
              have c9b0 : decide (x6_2 < (t302.length : Int)) = true := decide_eq_true c9
              clear c9
              by_cases c10 : 0 ≤ x6_2
              · rw [if_pos c10] at H
                have c10b0 : decide (0 ≤ x6_2) = true := decide_eq_true c10
                clear c10
                by_cases c11 : x4_2 = true
                · subst c11
                  have H1 : ((impl_ItmOk.f ((rd_T47 t302 x6_2).f0) ((rd_T47 t302 x6_2).f1) ((rd_T47 t302 x6_2).f2) ((rd_T47 t302 x6_2).f3) ((rd_T47 t302 x6_2).f4)).bind fun t307 => (if t307 = true then (if ((rd_T47 t302 x6_2).f0) = 3 then (if ((rd_T47 t302 x6_2).f0) = 2 then (if ((rd_T47 t302 x6_2).f1) > x5_2 then (laws_FnLogOk.l0 k2 t302 false ((rd_T47 t302 x6_2).f1) (wrap64 (x6_2 + 1))) else (laws_FnLogOk.l0 k2 t302 false x5_2 (wrap64 (x6_2 + 1)))) else (laws_FnLogOk.l0 k2 t302 false x5_2 (wrap64 (x6_2 + 1)))) else (if ((rd_T47 t302 x6_2).f0) = 2 then (if ((rd_T47 t302 x6_2).f1) > x5_2 then (laws_FnLogOk.l0 k2 t302 (decide (((rd_T47 t302 x6_2).f1) > x5_2)) ((rd_T47 t302 x6_2).f1) (wrap64 (x6_2 + 1))) else (laws_FnLogOk.l0 k2 t302 (decide (((rd_T47 t302 x6_2).f1) > x5_2)) x5_2 (wrap64 (x6_2 + 1)))) else (laws_FnLogOk.l0 k2 t302 true x5_2 (wrap64 (x6_2 + 1))))) else (if ((rd_T47 t302 x6_2).f0) = 2 then (if ((rd_T47 t302 x6_2).f1) > x5_2 then (laws_FnLogOk.l0 k2 t302 false ((rd_T47 t302 x6_2).f1) (wrap64 (x6_2 + 1))) else (laws_FnLogOk.l0 k2 t302 false x5_2 (wrap64 (x6_2 + 1)))) else (laws_FnLogOk.l0 k2 t302 false x5_2 (wrap64 (x6_2 + 1)))))) = some true := by rw [if_pos rfl] at H; exact H
                  clear H
                  have H := H1
                  clear H1
                  replace H := Option.bind_eq_some_iff.mp H
                  obtain ⟨t307, A120, H⟩ := H
                  replace H : (if t307 = true then (if ((rd_T47 t302 x6_2).f0) = 3 then (if ((rd_T47 t302 x6_2).f0) = 2 then (if ((rd_T47 t302 x6_2).f1) > x5_2 then (laws_FnLogOk.l0 k2 t302 false ((rd_T47 t302 x6_2).f1) (wrap64 (x6_2 + 1))) else (laws_FnLogOk.l0 k2 t302 false x5_2 (wrap64 (x6_2 + 1)))) else (laws_FnLogOk.l0 k2 t302 false x5_2 (wrap64 (x6_2 + 1)))) else (if ((rd_T47 t302 x6_2).f0) = 2 then (if ((rd_T47 t302 x6_2).f1) > x5_2 then (laws_FnLogOk.l0 k2 t302 (decide (((rd_T47 t302 x6_2).f1) > x5_2)) ((rd_T47 t302 x6_2).f1) (wrap64 (x6_2 + 1))) else (laws_FnLogOk.l0 k2 t302 (decide (((rd_T47 t302 x6_2).f1) > x5_2)) x5_2 (wrap64 (x6_2 + 1)))) else (laws_FnLogOk.l0 k2 t302 true x5_2 (wrap64 (x6_2 + 1))))) else (if ((rd_T47 t302 x6_2).f0) = 2 then (if ((rd_T47 t302 x6_2).f1) > x5_2 then (laws_FnLogOk.l0 k2 t302 false ((rd_T47 t302 x6_2).f1) (wrap64 (x6_2 + 1))) else (laws_FnLogOk.l0 k2 t302 false x5_2 (wrap64 (x6_2 + 1)))) else (laws_FnLogOk.l0 k2 t302 false x5_2 (wrap64 (x6_2 + 1))))) = some true := H
                  have A12 := Aside0.mk A120
                  clear A120
                  by_cases c13 : t307 = true
                  · subst c13
                    have H1 : (if ((rd_T47 t302 x6_2).f0) = 3 then (if ((rd_T47 t302 x6_2).f0) = 2 then (if ((rd_T47 t302 x6_2).f1) > x5_2 then (laws_FnLogOk.l0 k2 t302 false ((rd_T47 t302 x6_2).f1) (wrap64 (x6_2 + 1))) else (laws_FnLogOk.l0 k2 t302 false x5_2 (wrap64 (x6_2 + 1)))) else (laws_FnLogOk.l0 k2 t302 false x5_2 (wrap64 (x6_2 + 1)))) else (if ((rd_T47 t302 x6_2).f0) = 2 then (if ((rd_T47 t302 x6_2).f1) > x5_2 then (laws_FnLogOk.l0 k2 t302 (decide (((rd_T47 t302 x6_2).f1) > x5_2)) ((rd_T47 t302 x6_2).f1) (wrap64 (x6_2 + 1))) else (laws_FnLogOk.l0 k2 t302 (decide (((rd_T47 t302 x6_2).f1) > x5_2)) x5_2 (wrap64 (x6_2 + 1)))) else (laws_FnLogOk.l0 k2 t302 true x5_2 (wrap64 (x6_2 + 1))))) = some true := by rw [if_pos rfl] at H; exact H
                    clear H
                    have H := H1
                    clear H1
                    by_cases c14 : ((rd_T47 t302 x6_2).f0) = 3
                    · rw [if_pos c14] at H
                      have c14b0 : (((rd_T47 t302 x6_2).f0) == 3) = true := beq_iff_eq.mpr c14
                      have c14b1 : (((rd_T47 t302 x6_2).f0) != 3) = false := bne_eq_false_iff_eq.mpr c14
                      clear c14
                      by_cases c15 : ((rd_T47 t302 x6_2).f0) = 2
                      · rw [if_pos c15] at H
                        have c15b0 : (((rd_T47 t302 x6_2).f0) == 2) = true := beq_iff_eq.mpr c15
                        have c15b1 : (((rd_T47 t302 x6_2).f0) != 2) = false := bne_eq_false_iff_eq.mpr c15
                        clear c15
                        by_cases c16 : ((rd_T47 t302 x6_2).f1) > x5_2
                        · rw [if_pos c16] at H
                          have c16b0 : decide (x5_2 < ((rd_T47 t302 x6_2).f1)) = true := decide_eq_true c16
                          clear c16
                          have H' := Aside0.mk H
                          clear H
                          obtain ⟨Ao17, co17, eo17⟩ := Kd.R_slice HO_3.out
                          subst eo17
                          have p305 : 0 ≤ (x6_2 : Int) := of_decide_eq_true (by first | (with_reducible assumption) | assumption)
                          have q305 : x6_2 < (t302.length : Int) := of_decide_eq_true (by first | (with_reducible assumption) | assumption)
                          obtain ⟨ad305, e305, hx305_0, hx305_1, hx305_2, hx305_3, hx305_4⟩ := at_T47 (Kd.R_reads' HO_3.out).2.2 x6_2 p305 q305
                          cases e305
                          replace p305 := eq_true p305
                          replace q305 := eq_true q305
                          go_wp2_with (first | ((with_reducible refine gate_dst (N := 7) rfl ?_); (try (refine gate_guard (by rfl) ?_; dsimp only)); refine box_event ?hg (N := 7) ?hd (cs := #[.int .i64 0, .int .i64 0, .int .i64 0, .int .i64 0, .int .i64 0]) (t := 47) ?hr ?_; (case hd => rfl); (case hg => rfl); (case hr => first | (go_simp; done) | (go_simp; rfl)); intro gb306 hg w18 hbox hb; have n0_ := Aside0.mk (Kd.R_below (Kd.R_elderB (by (with_reducible repeat (first | apply Kd.R_alloc | apply Kd.R_drewN | apply Kd.R_drew)); exact HO_3.out) gb306 (Nat.le_of_eq hg.symm)) hb); have n1_ := Aside0.mk (below_step (by repeat (first | (with_reducible first | exact HB.out | apply below_alloc | apply pw_below_drewN | apply below_drew1) | exact HB.out)) hb); have n2_ := Aside0.mk (hbox); have n3_ := Aside0.mk ((by rw [hg]; exact (below_size (by repeat (first | (with_reducible first | exact HB.out | apply below_alloc | apply pw_below_drewN | apply below_drew1) | exact HB.out))) : w.heap.size ≤ gb306)); have n4_ := Aside0.mk ((by rw [hg]; exact (below_size (by repeat (first | (with_reducible first | exact HB.out | apply below_alloc | apply pw_below_drewN | apply below_drew1) | exact HB.out))) : w.heap.size ≤ gb306)); clear HO_3; clear HB; have HO_3 := n0_; have HB := n1_; have BK306 := n2_; have GW306 := n3_; have GE306 := n4_; clear n0_ n1_ n2_ n3_ n4_; clear hb hbox hg; have hcz19_0 : w18.cell? ⟨gb306, 0, none⟩ = some (.int .i64 0) := (blk_cell BK306.out 0).trans rfl; have hcz19_1 : w18.cell? ⟨gb306, 1, none⟩ = some (.int .i64 0) := (blk_cell BK306.out 1).trans rfl; have hcz19_2 : w18.cell? ⟨gb306, 2, none⟩ = some (.int .i64 0) := (blk_cell BK306.out 2).trans rfl; have hcz19_3 : w18.cell? ⟨gb306, 3, none⟩ = some (.int .i64 0) := (blk_cell BK306.out 3).trans rfl; have hcz19_4 : w18.cell? ⟨gb306, 4, none⟩ = some (.int .i64 0) := (blk_cell BK306.out 4).trans rfl; have hfz19_0 := blk_frozen BK306.out 0; have hfz19_1 := blk_frozen BK306.out 1; have hfz19_2 := blk_frozen BK306.out 2; have hfz19_3 := blk_frozen BK306.out 3; have hfz19_4 := blk_frozen BK306.out 4) | (go_at_call 30; (with_reducible refine (impl_ItmOk.calls ((rd_T47 t302 x6_2).f0) ((rd_T47 t302 x6_2).f1) ((rd_T47 t302 x6_2).f2) ((rd_T47 t302 x6_2).f3) ((rd_T47 t302 x6_2).f4) true _ A12.out).mono ?_); rintro e w20 ⟨rfl, hb⟩; have n0_ := Aside0.mk (Kd.R_below (by (with_reducible repeat (first | apply Kd.R_alloc | apply Kd.R_drewN | apply Kd.R_drew)); exact (Kd.R_mono (Kd.R_far (p := ⟨gb306, 4, none⟩) (Kd.R_far (p := ⟨gb306, 3, none⟩) (Kd.R_far (p := ⟨gb306, 2, none⟩) (Kd.R_far (p := ⟨gb306, 1, none⟩) (Kd.R_far (p := ⟨gb306, 0, none⟩) (Kd.R_mono HO_3.out (fun k_ hk => (⟨hk, hk.2⟩ : _ ∧ k_ ≠ gb306))) (fun _ hk => hk.2) (.int .i64 ((rd_T47 t302 x6_2).f0))) (fun _ hk => hk.2) (.int .i64 ((rd_T47 t302 x6_2).f1))) (fun _ hk => hk.2) (.int .i64 ((rd_T47 t302 x6_2).f2))) (fun _ hk => hk.2) (.int .i64 ((rd_T47 t302 x6_2).f3))) (fun _ hk => hk.2) (.int .i64 ((rd_T47 t302 x6_2).f4))) (fun _ h_ => h_.1))) hb); have n1_ := Aside0.mk (blk_below (g := gb306) (o := .cells #[.int .i64 ((rd_T47 t302 x6_2).f0), .int .i64 ((rd_T47 t302 x6_2).f1), .int .i64 ((rd_T47 t302 x6_2).f2), .int .i64 ((rd_T47 t302 x6_2).f3), .int .i64 ((rd_T47 t302 x6_2).f4)] 47 (0, 0)) (by (with_reducible repeat (first | refine blk_drewN ?_ _ | refine blk_drew ?_ | refine blk_alloc ?_ _)); refine blk_put (cs := #[.int .i64 ((rd_T47 t302 x6_2).f0), .int .i64 ((rd_T47 t302 x6_2).f1), .int .i64 ((rd_T47 t302 x6_2).f2), .int .i64 ((rd_T47 t302 x6_2).f3), .int .i64 0]) ?_ 4 _ rfl; (with_reducible repeat (first | refine blk_drewN ?_ _ | refine blk_drew ?_ | refine blk_alloc ?_ _)); refine blk_put (cs := #[.int .i64 ((rd_T47 t302 x6_2).f0), .int .i64 ((rd_T47 t302 x6_2).f1), .int .i64 ((rd_T47 t302 x6_2).f2), .int .i64 0, .int .i64 0]) ?_ 3 _ rfl; (with_reducible repeat (first | refine blk_drewN ?_ _ | refine blk_drew ?_ | refine blk_alloc ?_ _)); refine blk_put (cs := #[.int .i64 ((rd_T47 t302 x6_2).f0), .int .i64 ((rd_T47 t302 x6_2).f1), .int .i64 0, .int .i64 0, .int .i64 0]) ?_ 2 _ rfl; (with_reducible repeat (first | refine blk_drewN ?_ _ | refine blk_drew ?_ | refine blk_alloc ?_ _)); refine blk_put (cs := #[.int .i64 ((rd_T47 t302 x6_2).f0), .int .i64 0, .int .i64 0, .int .i64 0, .int .i64 0]) ?_ 1 _ rfl; (with_reducible repeat (first | refine blk_drewN ?_ _ | refine blk_drew ?_ | refine blk_alloc ?_ _)); refine blk_put (cs := #[.int .i64 0, .int .i64 0, .int .i64 0, .int .i64 0, .int .i64 0]) ?_ 0 _ rfl; (with_reducible repeat (first | refine blk_drewN ?_ _ | refine blk_drew ?_ | refine blk_alloc ?_ _)); exact BK306.out) hb); have n2_ := Aside0.mk (below_step (by repeat (first | (with_reducible first | exact HB.out | apply below_alloc | apply pw_below_drewN | apply below_drew1 | refine below_set ?_ GE306.out) | exact HB.out)) hb); clear HO_3; clear BK306; clear HB; have HO_3 := n0_; have BK306 := n1_; have HB := n2_; clear n0_ n1_ n2_; (try clear hb); (try clear hb2); (try clear hk); (try clear hi); have hcz21_0 : w20.cell? ⟨gb306, 0, none⟩ = some (.int .i64 ((rd_T47 t302 x6_2).f0)) := (blk_cell BK306.out 0).trans rfl; have hcz21_1 : w20.cell? ⟨gb306, 1, none⟩ = some (.int .i64 ((rd_T47 t302 x6_2).f1)) := (blk_cell BK306.out 1).trans rfl; have hcz21_2 : w20.cell? ⟨gb306, 2, none⟩ = some (.int .i64 ((rd_T47 t302 x6_2).f2)) := (blk_cell BK306.out 2).trans rfl; have hcz21_3 : w20.cell? ⟨gb306, 3, none⟩ = some (.int .i64 ((rd_T47 t302 x6_2).f3)) := (blk_cell BK306.out 3).trans rfl; have hcz21_4 : w20.cell? ⟨gb306, 4, none⟩ = some (.int .i64 ((rd_T47 t302 x6_2).f4)) := (blk_cell BK306.out 4).trans rfl; have hfz21_0 := blk_frozen BK306.out 0; have hfz21_1 := blk_frozen BK306.out 1; have hfz21_2 := blk_frozen BK306.out 2; have hfz21_3 := blk_frozen BK306.out 3; have hfz21_4 := blk_frozen BK306.out 4))
                          go_roundg k2
                          case measure => have := HJ3.out; have := HK2.out; omega
                          case rel => exact ⟨(false), ((rd_T47 t302 x6_2).f1), (wrap64 (x6_2 + 1)), (by first | rfl | (simp; done) | (simp [*]; done)), (by first | rfl | (simp; done) | (simp [*]; done)), (by first | rfl | (simp; done) | (simp [*]; done)), H', ⟨by have := HJ3.out; have := HK2.out; omega⟩, ⟨by (with_reducible repeat (first | apply Kd.R_alloc | apply Kd.R_drewN | apply Kd.R_drew)); exact Kd.R_mono HO_3.out (fun _ hk => trivial)⟩, ⟨by repeat (first | (with_reducible first | exact HB.out | apply below_alloc | apply pw_below_drewN | apply below_drew1 | refine below_set ?_ GE306.out) | exact HB.out)⟩⟩
                        · rw [if_neg c16] at H
                          have c16b0 : decide (x5_2 < ((rd_T47 t302 x6_2).f1)) = false := decide_eq_false c16
                          clear c16
                          have H' := Aside0.mk H
                          clear H
                          obtain ⟨Ao22, co22, eo22⟩ := Kd.R_slice HO_3.out
                          subst eo22
                          have p305 : 0 ≤ (x6_2 : Int) := of_decide_eq_true (by first | (with_reducible assumption) | assumption)
                          have q305 : x6_2 < (t302.length : Int) := of_decide_eq_true (by first | (with_reducible assumption) | assumption)
                          obtain ⟨ad305, e305, hx305_0, hx305_1, hx305_2, hx305_3, hx305_4⟩ := at_T47 (Kd.R_reads' HO_3.out).2.2 x6_2 p305 q305
                          cases e305
                          replace p305 := eq_true p305
                          replace q305 := eq_true q305
                          go_wp2_with (first | ((with_reducible refine gate_dst (N := 7) rfl ?_); (try (refine gate_guard (by rfl) ?_; dsimp only)); refine box_event ?hg (N := 7) ?hd (cs := #[.int .i64 0, .int .i64 0, .int .i64 0, .int .i64 0, .int .i64 0]) (t := 47) ?hr ?_; (case hd => rfl); (case hg => rfl); (case hr => first | (go_simp; done) | (go_simp; rfl)); intro gb306 hg w23 hbox hb; have n0_ := Aside0.mk (Kd.R_below (Kd.R_elderB (by (with_reducible repeat (first | apply Kd.R_alloc | apply Kd.R_drewN | apply Kd.R_drew)); exact HO_3.out) gb306 (Nat.le_of_eq hg.symm)) hb); have n1_ := Aside0.mk (below_step (by repeat (first | (with_reducible first | exact HB.out | apply below_alloc | apply pw_below_drewN | apply below_drew1) | exact HB.out)) hb); have n2_ := Aside0.mk (hbox); have n3_ := Aside0.mk ((by rw [hg]; exact (below_size (by repeat (first | (with_reducible first | exact HB.out | apply below_alloc | apply pw_below_drewN | apply below_drew1) | exact HB.out))) : w.heap.size ≤ gb306)); have n4_ := Aside0.mk ((by rw [hg]; exact (below_size (by repeat (first | (with_reducible first | exact HB.out | apply below_alloc | apply pw_below_drewN | apply below_drew1) | exact HB.out))) : w.heap.size ≤ gb306)); clear HO_3; clear HB; have HO_3 := n0_; have HB := n1_; have BK306 := n2_; have GW306 := n3_; have GE306 := n4_; clear n0_ n1_ n2_ n3_ n4_; clear hb hbox hg; have hcz24_0 : w23.cell? ⟨gb306, 0, none⟩ = some (.int .i64 0) := (blk_cell BK306.out 0).trans rfl; have hcz24_1 : w23.cell? ⟨gb306, 1, none⟩ = some (.int .i64 0) := (blk_cell BK306.out 1).trans rfl; have hcz24_2 : w23.cell? ⟨gb306, 2, none⟩ = some (.int .i64 0) := (blk_cell BK306.out 2).trans rfl; have hcz24_3 : w23.cell? ⟨gb306, 3, none⟩ = some (.int .i64 0) := (blk_cell BK306.out 3).trans rfl; have hcz24_4 : w23.cell? ⟨gb306, 4, none⟩ = some (.int .i64 0) := (blk_cell BK306.out 4).trans rfl; have hfz24_0 := blk_frozen BK306.out 0; have hfz24_1 := blk_frozen BK306.out 1; have hfz24_2 := blk_frozen BK306.out 2; have hfz24_3 := blk_frozen BK306.out 3; have hfz24_4 := blk_frozen BK306.out 4) | (go_at_call 30; (with_reducible refine (impl_ItmOk.calls ((rd_T47 t302 x6_2).f0) ((rd_T47 t302 x6_2).f1) ((rd_T47 t302 x6_2).f2) ((rd_T47 t302 x6_2).f3) ((rd_T47 t302 x6_2).f4) true _ A12.out).mono ?_); rintro e w25 ⟨rfl, hb⟩; have n0_ := Aside0.mk (Kd.R_below (by (with_reducible repeat (first | apply Kd.R_alloc | apply Kd.R_drewN | apply Kd.R_drew)); exact (Kd.R_mono (Kd.R_far (p := ⟨gb306, 4, none⟩) (Kd.R_far (p := ⟨gb306, 3, none⟩) (Kd.R_far (p := ⟨gb306, 2, none⟩) (Kd.R_far (p := ⟨gb306, 1, none⟩) (Kd.R_far (p := ⟨gb306, 0, none⟩) (Kd.R_mono HO_3.out (fun k_ hk => (⟨hk, hk.2⟩ : _ ∧ k_ ≠ gb306))) (fun _ hk => hk.2) (.int .i64 ((rd_T47 t302 x6_2).f0))) (fun _ hk => hk.2) (.int .i64 ((rd_T47 t302 x6_2).f1))) (fun _ hk => hk.2) (.int .i64 ((rd_T47 t302 x6_2).f2))) (fun _ hk => hk.2) (.int .i64 ((rd_T47 t302 x6_2).f3))) (fun _ hk => hk.2) (.int .i64 ((rd_T47 t302 x6_2).f4))) (fun _ h_ => h_.1))) hb); have n1_ := Aside0.mk (blk_below (g := gb306) (o := .cells #[.int .i64 ((rd_T47 t302 x6_2).f0), .int .i64 ((rd_T47 t302 x6_2).f1), .int .i64 ((rd_T47 t302 x6_2).f2), .int .i64 ((rd_T47 t302 x6_2).f3), .int .i64 ((rd_T47 t302 x6_2).f4)] 47 (0, 0)) (by (with_reducible repeat (first | refine blk_drewN ?_ _ | refine blk_drew ?_ | refine blk_alloc ?_ _)); refine blk_put (cs := #[.int .i64 ((rd_T47 t302 x6_2).f0), .int .i64 ((rd_T47 t302 x6_2).f1), .int .i64 ((rd_T47 t302 x6_2).f2), .int .i64 ((rd_T47 t302 x6_2).f3), .int .i64 0]) ?_ 4 _ rfl; (with_reducible repeat (first | refine blk_drewN ?_ _ | refine blk_drew ?_ | refine blk_alloc ?_ _)); refine blk_put (cs := #[.int .i64 ((rd_T47 t302 x6_2).f0), .int .i64 ((rd_T47 t302 x6_2).f1), .int .i64 ((rd_T47 t302 x6_2).f2), .int .i64 0, .int .i64 0]) ?_ 3 _ rfl; (with_reducible repeat (first | refine blk_drewN ?_ _ | refine blk_drew ?_ | refine blk_alloc ?_ _)); refine blk_put (cs := #[.int .i64 ((rd_T47 t302 x6_2).f0), .int .i64 ((rd_T47 t302 x6_2).f1), .int .i64 0, .int .i64 0, .int .i64 0]) ?_ 2 _ rfl; (with_reducible repeat (first | refine blk_drewN ?_ _ | refine blk_drew ?_ | refine blk_alloc ?_ _)); refine blk_put (cs := #[.int .i64 ((rd_T47 t302 x6_2).f0), .int .i64 0, .int .i64 0, .int .i64 0, .int .i64 0]) ?_ 1 _ rfl; (with_reducible repeat (first | refine blk_drewN ?_ _ | refine blk_drew ?_ | refine blk_alloc ?_ _)); refine blk_put (cs := #[.int .i64 0, .int .i64 0, .int .i64 0, .int .i64 0, .int .i64 0]) ?_ 0 _ rfl; (with_reducible repeat (first | refine blk_drewN ?_ _ | refine blk_drew ?_ | refine blk_alloc ?_ _)); exact BK306.out) hb); have n2_ := Aside0.mk (below_step (by repeat (first | (with_reducible first | exact HB.out | apply below_alloc | apply pw_below_drewN | apply below_drew1 | refine below_set ?_ GE306.out) | exact HB.out)) hb); clear HO_3; clear BK306; clear HB; have HO_3 := n0_; have BK306 := n1_; have HB := n2_; clear n0_ n1_ n2_; (try clear hb); (try clear hb2); (try clear hk); (try clear hi); have hcz26_0 : w25.cell? ⟨gb306, 0, none⟩ = some (.int .i64 ((rd_T47 t302 x6_2).f0)) := (blk_cell BK306.out 0).trans rfl; have hcz26_1 : w25.cell? ⟨gb306, 1, none⟩ = some (.int .i64 ((rd_T47 t302 x6_2).f1)) := (blk_cell BK306.out 1).trans rfl; have hcz26_2 : w25.cell? ⟨gb306, 2, none⟩ = some (.int .i64 ((rd_T47 t302 x6_2).f2)) := (blk_cell BK306.out 2).trans rfl; have hcz26_3 : w25.cell? ⟨gb306, 3, none⟩ = some (.int .i64 ((rd_T47 t302 x6_2).f3)) := (blk_cell BK306.out 3).trans rfl; have hcz26_4 : w25.cell? ⟨gb306, 4, none⟩ = some (.int .i64 ((rd_T47 t302 x6_2).f4)) := (blk_cell BK306.out 4).trans rfl; have hfz26_0 := blk_frozen BK306.out 0; have hfz26_1 := blk_frozen BK306.out 1; have hfz26_2 := blk_frozen BK306.out 2; have hfz26_3 := blk_frozen BK306.out 3; have hfz26_4 := blk_frozen BK306.out 4))
                          go_roundg k2
                          case measure => have := HJ3.out; have := HK2.out; omega
                          case rel => exact ⟨(false), (x5_2), (wrap64 (x6_2 + 1)), (by first | rfl | (simp; done) | (simp [*]; done)), (by first | rfl | (simp; done) | (simp [*]; done)), (by first | rfl | (simp; done) | (simp [*]; done)), H', ⟨by have := HJ3.out; have := HK2.out; omega⟩, ⟨by (with_reducible repeat (first | apply Kd.R_alloc | apply Kd.R_drewN | apply Kd.R_drew)); exact Kd.R_mono HO_3.out (fun _ hk => trivial)⟩, ⟨by repeat (first | (with_reducible first | exact HB.out | apply below_alloc | apply pw_below_drewN | apply below_drew1 | refine below_set ?_ GE306.out) | exact HB.out)⟩⟩
                      · rw [if_neg c15] at H
                        have c15b0 : (((rd_T47 t302 x6_2).f0) == 2) = false := beq_eq_false_iff_ne.mpr c15
                        have c15b1 : (((rd_T47 t302 x6_2).f0) != 2) = true := bne_iff_ne.mpr c15
                        have H' := Aside0.mk H
                        clear H
                        obtain ⟨Ao27, co27, eo27⟩ := Kd.R_slice HO_3.out
                        subst eo27
                        have p305 : 0 ≤ (x6_2 : Int) := of_decide_eq_true (by first | (with_reducible assumption) | assumption)
                        have q305 : x6_2 < (t302.length : Int) := of_decide_eq_true (by first | (with_reducible assumption) | assumption)
                        obtain ⟨ad305, e305, hx305_0, hx305_1, hx305_2, hx305_3, hx305_4⟩ := at_T47 (Kd.R_reads' HO_3.out).2.2 x6_2 p305 q305
                        cases e305
                        replace p305 := eq_true p305
                        replace q305 := eq_true q305
                        go_wp2_with (first | ((with_reducible refine gate_dst (N := 7) rfl ?_); (try (refine gate_guard (by rfl) ?_; dsimp only)); refine box_event ?hg (N := 7) ?hd (cs := #[.int .i64 0, .int .i64 0, .int .i64 0, .int .i64 0, .int .i64 0]) (t := 47) ?hr ?_; (case hd => rfl); (case hg => rfl); (case hr => first | (go_simp; done) | (go_simp; rfl)); intro gb306 hg w28 hbox hb; have n0_ := Aside0.mk (Kd.R_below (Kd.R_elderB (by (with_reducible repeat (first | apply Kd.R_alloc | apply Kd.R_drewN | apply Kd.R_drew)); exact HO_3.out) gb306 (Nat.le_of_eq hg.symm)) hb); have n1_ := Aside0.mk (below_step (by repeat (first | (with_reducible first | exact HB.out | apply below_alloc | apply pw_below_drewN | apply below_drew1) | exact HB.out)) hb); have n2_ := Aside0.mk (hbox); have n3_ := Aside0.mk ((by rw [hg]; exact (below_size (by repeat (first | (with_reducible first | exact HB.out | apply below_alloc | apply pw_below_drewN | apply below_drew1) | exact HB.out))) : w.heap.size ≤ gb306)); have n4_ := Aside0.mk ((by rw [hg]; exact (below_size (by repeat (first | (with_reducible first | exact HB.out | apply below_alloc | apply pw_below_drewN | apply below_drew1) | exact HB.out))) : w.heap.size ≤ gb306)); clear HO_3; clear HB; have HO_3 := n0_; have HB := n1_; have BK306 := n2_; have GW306 := n3_; have GE306 := n4_; clear n0_ n1_ n2_ n3_ n4_; clear hb hbox hg; have hcz29_0 : w28.cell? ⟨gb306, 0, none⟩ = some (.int .i64 0) := (blk_cell BK306.out 0).trans rfl; have hcz29_1 : w28.cell? ⟨gb306, 1, none⟩ = some (.int .i64 0) := (blk_cell BK306.out 1).trans rfl; have hcz29_2 : w28.cell? ⟨gb306, 2, none⟩ = some (.int .i64 0) := (blk_cell BK306.out 2).trans rfl; have hcz29_3 : w28.cell? ⟨gb306, 3, none⟩ = some (.int .i64 0) := (blk_cell BK306.out 3).trans rfl; have hcz29_4 : w28.cell? ⟨gb306, 4, none⟩ = some (.int .i64 0) := (blk_cell BK306.out 4).trans rfl; have hfz29_0 := blk_frozen BK306.out 0; have hfz29_1 := blk_frozen BK306.out 1; have hfz29_2 := blk_frozen BK306.out 2; have hfz29_3 := blk_frozen BK306.out 3; have hfz29_4 := blk_frozen BK306.out 4) | (go_at_call 30; (with_reducible refine (impl_ItmOk.calls ((rd_T47 t302 x6_2).f0) ((rd_T47 t302 x6_2).f1) ((rd_T47 t302 x6_2).f2) ((rd_T47 t302 x6_2).f3) ((rd_T47 t302 x6_2).f4) true _ A12.out).mono ?_); rintro e w30 ⟨rfl, hb⟩; have n0_ := Aside0.mk (Kd.R_below (by (with_reducible repeat (first | apply Kd.R_alloc | apply Kd.R_drewN | apply Kd.R_drew)); exact (Kd.R_mono (Kd.R_far (p := ⟨gb306, 4, none⟩) (Kd.R_far (p := ⟨gb306, 3, none⟩) (Kd.R_far (p := ⟨gb306, 2, none⟩) (Kd.R_far (p := ⟨gb306, 1, none⟩) (Kd.R_far (p := ⟨gb306, 0, none⟩) (Kd.R_mono HO_3.out (fun k_ hk => (⟨hk, hk.2⟩ : _ ∧ k_ ≠ gb306))) (fun _ hk => hk.2) (.int .i64 ((rd_T47 t302 x6_2).f0))) (fun _ hk => hk.2) (.int .i64 ((rd_T47 t302 x6_2).f1))) (fun _ hk => hk.2) (.int .i64 ((rd_T47 t302 x6_2).f2))) (fun _ hk => hk.2) (.int .i64 ((rd_T47 t302 x6_2).f3))) (fun _ hk => hk.2) (.int .i64 ((rd_T47 t302 x6_2).f4))) (fun _ h_ => h_.1))) hb); have n1_ := Aside0.mk (blk_below (g := gb306) (o := .cells #[.int .i64 ((rd_T47 t302 x6_2).f0), .int .i64 ((rd_T47 t302 x6_2).f1), .int .i64 ((rd_T47 t302 x6_2).f2), .int .i64 ((rd_T47 t302 x6_2).f3), .int .i64 ((rd_T47 t302 x6_2).f4)] 47 (0, 0)) (by (with_reducible repeat (first | refine blk_drewN ?_ _ | refine blk_drew ?_ | refine blk_alloc ?_ _)); refine blk_put (cs := #[.int .i64 ((rd_T47 t302 x6_2).f0), .int .i64 ((rd_T47 t302 x6_2).f1), .int .i64 ((rd_T47 t302 x6_2).f2), .int .i64 ((rd_T47 t302 x6_2).f3), .int .i64 0]) ?_ 4 _ rfl; (with_reducible repeat (first | refine blk_drewN ?_ _ | refine blk_drew ?_ | refine blk_alloc ?_ _)); refine blk_put (cs := #[.int .i64 ((rd_T47 t302 x6_2).f0), .int .i64 ((rd_T47 t302 x6_2).f1), .int .i64 ((rd_T47 t302 x6_2).f2), .int .i64 0, .int .i64 0]) ?_ 3 _ rfl; (with_reducible repeat (first | refine blk_drewN ?_ _ | refine blk_drew ?_ | refine blk_alloc ?_ _)); refine blk_put (cs := #[.int .i64 ((rd_T47 t302 x6_2).f0), .int .i64 ((rd_T47 t302 x6_2).f1), .int .i64 0, .int .i64 0, .int .i64 0]) ?_ 2 _ rfl; (with_reducible repeat (first | refine blk_drewN ?_ _ | refine blk_drew ?_ | refine blk_alloc ?_ _)); refine blk_put (cs := #[.int .i64 ((rd_T47 t302 x6_2).f0), .int .i64 0, .int .i64 0, .int .i64 0, .int .i64 0]) ?_ 1 _ rfl; (with_reducible repeat (first | refine blk_drewN ?_ _ | refine blk_drew ?_ | refine blk_alloc ?_ _)); refine blk_put (cs := #[.int .i64 0, .int .i64 0, .int .i64 0, .int .i64 0, .int .i64 0]) ?_ 0 _ rfl; (with_reducible repeat (first | refine blk_drewN ?_ _ | refine blk_drew ?_ | refine blk_alloc ?_ _)); exact BK306.out) hb); have n2_ := Aside0.mk (below_step (by repeat (first | (with_reducible first | exact HB.out | apply below_alloc | apply pw_below_drewN | apply below_drew1 | refine below_set ?_ GE306.out) | exact HB.out)) hb); clear HO_3; clear BK306; clear HB; have HO_3 := n0_; have BK306 := n1_; have HB := n2_; clear n0_ n1_ n2_; (try clear hb); (try clear hb2); (try clear hk); (try clear hi); have hcz31_0 : w30.cell? ⟨gb306, 0, none⟩ = some (.int .i64 ((rd_T47 t302 x6_2).f0)) := (blk_cell BK306.out 0).trans rfl; have hcz31_1 : w30.cell? ⟨gb306, 1, none⟩ = some (.int .i64 ((rd_T47 t302 x6_2).f1)) := (blk_cell BK306.out 1).trans rfl; have hcz31_2 : w30.cell? ⟨gb306, 2, none⟩ = some (.int .i64 ((rd_T47 t302 x6_2).f2)) := (blk_cell BK306.out 2).trans rfl; have hcz31_3 : w30.cell? ⟨gb306, 3, none⟩ = some (.int .i64 ((rd_T47 t302 x6_2).f3)) := (blk_cell BK306.out 3).trans rfl; have hcz31_4 : w30.cell? ⟨gb306, 4, none⟩ = some (.int .i64 ((rd_T47 t302 x6_2).f4)) := (blk_cell BK306.out 4).trans rfl; have hfz31_0 := blk_frozen BK306.out 0; have hfz31_1 := blk_frozen BK306.out 1; have hfz31_2 := blk_frozen BK306.out 2; have hfz31_3 := blk_frozen BK306.out 3; have hfz31_4 := blk_frozen BK306.out 4))
                        go_roundg k2
                        case measure => have := HJ3.out; have := HK2.out; omega
                        case rel => exact ⟨(false), (x5_2), (wrap64 (x6_2 + 1)), (by first | rfl | (simp; done) | (simp [*]; done)), (by first | rfl | (simp; done) | (simp [*]; done)), (by first | rfl | (simp; done) | (simp [*]; done)), H', ⟨by have := HJ3.out; have := HK2.out; omega⟩, ⟨by (with_reducible repeat (first | apply Kd.R_alloc | apply Kd.R_drewN | apply Kd.R_drew)); exact Kd.R_mono HO_3.out (fun _ hk => trivial)⟩, ⟨by repeat (first | (with_reducible first | exact HB.out | apply below_alloc | apply pw_below_drewN | apply below_drew1 | refine below_set ?_ GE306.out) | exact HB.out)⟩⟩
                    · rw [if_neg c14] at H
                      have c14b0 : (((rd_T47 t302 x6_2).f0) == 3) = false := beq_eq_false_iff_ne.mpr c14
                      have c14b1 : (((rd_T47 t302 x6_2).f0) != 3) = true := bne_iff_ne.mpr c14
                      by_cases c32 : ((rd_T47 t302 x6_2).f0) = 2
                      · rw [if_pos c32] at H
                        have c32b0 : (((rd_T47 t302 x6_2).f0) == 2) = true := beq_iff_eq.mpr c32
                        have c32b1 : (((rd_T47 t302 x6_2).f0) != 2) = false := bne_eq_false_iff_eq.mpr c32
                        clear c32
                        by_cases c33 : ((rd_T47 t302 x6_2).f1) > x5_2
                        · rw [if_pos c33] at H
                          have c33b0 : decide (x5_2 < ((rd_T47 t302 x6_2).f1)) = true := decide_eq_true c33
                          clear c33
                          have H' := Aside0.mk H
                          clear H
                          obtain ⟨Ao34, co34, eo34⟩ := Kd.R_slice HO_3.out
                          subst eo34
                          have p305 : 0 ≤ (x6_2 : Int) := of_decide_eq_true (by first | (with_reducible assumption) | assumption)
                          have q305 : x6_2 < (t302.length : Int) := of_decide_eq_true (by first | (with_reducible assumption) | assumption)
                          obtain ⟨ad305, e305, hx305_0, hx305_1, hx305_2, hx305_3, hx305_4⟩ := at_T47 (Kd.R_reads' HO_3.out).2.2 x6_2 p305 q305
                          cases e305
                          replace p305 := eq_true p305
                          replace q305 := eq_true q305
                          go_wp2_with (first | ((with_reducible refine gate_dst (N := 7) rfl ?_); (try (refine gate_guard (by rfl) ?_; dsimp only)); refine box_event ?hg (N := 7) ?hd (cs := #[.int .i64 0, .int .i64 0, .int .i64 0, .int .i64 0, .int .i64 0]) (t := 47) ?hr ?_; (case hd => rfl); (case hg => rfl); (case hr => first | (go_simp; done) | (go_simp; rfl)); intro gb306 hg w35 hbox hb; have n0_ := Aside0.mk (Kd.R_below (Kd.R_elderB (by (with_reducible repeat (first | apply Kd.R_alloc | apply Kd.R_drewN | apply Kd.R_drew)); exact HO_3.out) gb306 (Nat.le_of_eq hg.symm)) hb); have n1_ := Aside0.mk (below_step (by repeat (first | (with_reducible first | exact HB.out | apply below_alloc | apply pw_below_drewN | apply below_drew1) | exact HB.out)) hb); have n2_ := Aside0.mk (hbox); have n3_ := Aside0.mk ((by rw [hg]; exact (below_size (by repeat (first | (with_reducible first | exact HB.out | apply below_alloc | apply pw_below_drewN | apply below_drew1) | exact HB.out))) : w.heap.size ≤ gb306)); have n4_ := Aside0.mk ((by rw [hg]; exact (below_size (by repeat (first | (with_reducible first | exact HB.out | apply below_alloc | apply pw_below_drewN | apply below_drew1) | exact HB.out))) : w.heap.size ≤ gb306)); clear HO_3; clear HB; have HO_3 := n0_; have HB := n1_; have BK306 := n2_; have GW306 := n3_; have GE306 := n4_; clear n0_ n1_ n2_ n3_ n4_; clear hb hbox hg; have hcz36_0 : w35.cell? ⟨gb306, 0, none⟩ = some (.int .i64 0) := (blk_cell BK306.out 0).trans rfl; have hcz36_1 : w35.cell? ⟨gb306, 1, none⟩ = some (.int .i64 0) := (blk_cell BK306.out 1).trans rfl; have hcz36_2 : w35.cell? ⟨gb306, 2, none⟩ = some (.int .i64 0) := (blk_cell BK306.out 2).trans rfl; have hcz36_3 : w35.cell? ⟨gb306, 3, none⟩ = some (.int .i64 0) := (blk_cell BK306.out 3).trans rfl; have hcz36_4 : w35.cell? ⟨gb306, 4, none⟩ = some (.int .i64 0) := (blk_cell BK306.out 4).trans rfl; have hfz36_0 := blk_frozen BK306.out 0; have hfz36_1 := blk_frozen BK306.out 1; have hfz36_2 := blk_frozen BK306.out 2; have hfz36_3 := blk_frozen BK306.out 3; have hfz36_4 := blk_frozen BK306.out 4) | (go_at_call 30; (with_reducible refine (impl_ItmOk.calls ((rd_T47 t302 x6_2).f0) ((rd_T47 t302 x6_2).f1) ((rd_T47 t302 x6_2).f2) ((rd_T47 t302 x6_2).f3) ((rd_T47 t302 x6_2).f4) true _ A12.out).mono ?_); rintro e w37 ⟨rfl, hb⟩; have n0_ := Aside0.mk (Kd.R_below (by (with_reducible repeat (first | apply Kd.R_alloc | apply Kd.R_drewN | apply Kd.R_drew)); exact (Kd.R_mono (Kd.R_far (p := ⟨gb306, 4, none⟩) (Kd.R_far (p := ⟨gb306, 3, none⟩) (Kd.R_far (p := ⟨gb306, 2, none⟩) (Kd.R_far (p := ⟨gb306, 1, none⟩) (Kd.R_far (p := ⟨gb306, 0, none⟩) (Kd.R_mono HO_3.out (fun k_ hk => (⟨hk, hk.2⟩ : _ ∧ k_ ≠ gb306))) (fun _ hk => hk.2) (.int .i64 ((rd_T47 t302 x6_2).f0))) (fun _ hk => hk.2) (.int .i64 ((rd_T47 t302 x6_2).f1))) (fun _ hk => hk.2) (.int .i64 ((rd_T47 t302 x6_2).f2))) (fun _ hk => hk.2) (.int .i64 ((rd_T47 t302 x6_2).f3))) (fun _ hk => hk.2) (.int .i64 ((rd_T47 t302 x6_2).f4))) (fun _ h_ => h_.1))) hb); have n1_ := Aside0.mk (blk_below (g := gb306) (o := .cells #[.int .i64 ((rd_T47 t302 x6_2).f0), .int .i64 ((rd_T47 t302 x6_2).f1), .int .i64 ((rd_T47 t302 x6_2).f2), .int .i64 ((rd_T47 t302 x6_2).f3), .int .i64 ((rd_T47 t302 x6_2).f4)] 47 (0, 0)) (by (with_reducible repeat (first | refine blk_drewN ?_ _ | refine blk_drew ?_ | refine blk_alloc ?_ _)); refine blk_put (cs := #[.int .i64 ((rd_T47 t302 x6_2).f0), .int .i64 ((rd_T47 t302 x6_2).f1), .int .i64 ((rd_T47 t302 x6_2).f2), .int .i64 ((rd_T47 t302 x6_2).f3), .int .i64 0]) ?_ 4 _ rfl; (with_reducible repeat (first | refine blk_drewN ?_ _ | refine blk_drew ?_ | refine blk_alloc ?_ _)); refine blk_put (cs := #[.int .i64 ((rd_T47 t302 x6_2).f0), .int .i64 ((rd_T47 t302 x6_2).f1), .int .i64 ((rd_T47 t302 x6_2).f2), .int .i64 0, .int .i64 0]) ?_ 3 _ rfl; (with_reducible repeat (first | refine blk_drewN ?_ _ | refine blk_drew ?_ | refine blk_alloc ?_ _)); refine blk_put (cs := #[.int .i64 ((rd_T47 t302 x6_2).f0), .int .i64 ((rd_T47 t302 x6_2).f1), .int .i64 0, .int .i64 0, .int .i64 0]) ?_ 2 _ rfl; (with_reducible repeat (first | refine blk_drewN ?_ _ | refine blk_drew ?_ | refine blk_alloc ?_ _)); refine blk_put (cs := #[.int .i64 ((rd_T47 t302 x6_2).f0), .int .i64 0, .int .i64 0, .int .i64 0, .int .i64 0]) ?_ 1 _ rfl; (with_reducible repeat (first | refine blk_drewN ?_ _ | refine blk_drew ?_ | refine blk_alloc ?_ _)); refine blk_put (cs := #[.int .i64 0, .int .i64 0, .int .i64 0, .int .i64 0, .int .i64 0]) ?_ 0 _ rfl; (with_reducible repeat (first | refine blk_drewN ?_ _ | refine blk_drew ?_ | refine blk_alloc ?_ _)); exact BK306.out) hb); have n2_ := Aside0.mk (below_step (by repeat (first | (with_reducible first | exact HB.out | apply below_alloc | apply pw_below_drewN | apply below_drew1 | refine below_set ?_ GE306.out) | exact HB.out)) hb); clear HO_3; clear BK306; clear HB; have HO_3 := n0_; have BK306 := n1_; have HB := n2_; clear n0_ n1_ n2_; (try clear hb); (try clear hb2); (try clear hk); (try clear hi); have hcz38_0 : w37.cell? ⟨gb306, 0, none⟩ = some (.int .i64 ((rd_T47 t302 x6_2).f0)) := (blk_cell BK306.out 0).trans rfl; have hcz38_1 : w37.cell? ⟨gb306, 1, none⟩ = some (.int .i64 ((rd_T47 t302 x6_2).f1)) := (blk_cell BK306.out 1).trans rfl; have hcz38_2 : w37.cell? ⟨gb306, 2, none⟩ = some (.int .i64 ((rd_T47 t302 x6_2).f2)) := (blk_cell BK306.out 2).trans rfl; have hcz38_3 : w37.cell? ⟨gb306, 3, none⟩ = some (.int .i64 ((rd_T47 t302 x6_2).f3)) := (blk_cell BK306.out 3).trans rfl; have hcz38_4 : w37.cell? ⟨gb306, 4, none⟩ = some (.int .i64 ((rd_T47 t302 x6_2).f4)) := (blk_cell BK306.out 4).trans rfl; have hfz38_0 := blk_frozen BK306.out 0; have hfz38_1 := blk_frozen BK306.out 1; have hfz38_2 := blk_frozen BK306.out 2; have hfz38_3 := blk_frozen BK306.out 3; have hfz38_4 := blk_frozen BK306.out 4))
                          go_roundg k2
                          case measure => have := HJ3.out; have := HK2.out; omega
                          case rel => exact ⟨(decide (((rd_T47 t302 x6_2).f1) > x5_2)), ((rd_T47 t302 x6_2).f1), (wrap64 (x6_2 + 1)), (by first | rfl | (simp; done) | (simp [*]; done)), (by first | rfl | (simp; done) | (simp [*]; done)), (by first | rfl | (simp; done) | (simp [*]; done)), H', ⟨by have := HJ3.out; have := HK2.out; omega⟩, ⟨by (with_reducible repeat (first | apply Kd.R_alloc | apply Kd.R_drewN | apply Kd.R_drew)); exact Kd.R_mono HO_3.out (fun _ hk => trivial)⟩, ⟨by repeat (first | (with_reducible first | exact HB.out | apply below_alloc | apply pw_below_drewN | apply below_drew1 | refine below_set ?_ GE306.out) | exact HB.out)⟩⟩
                        · rw [if_neg c33] at H
                          have c33b0 : decide (x5_2 < ((rd_T47 t302 x6_2).f1)) = false := decide_eq_false c33
                          clear c33
                          have H' := Aside0.mk H
                          clear H
                          obtain ⟨Ao39, co39, eo39⟩ := Kd.R_slice HO_3.out
                          subst eo39
                          have p305 : 0 ≤ (x6_2 : Int) := of_decide_eq_true (by first | (with_reducible assumption) | assumption)
                          have q305 : x6_2 < (t302.length : Int) := of_decide_eq_true (by first | (with_reducible assumption) | assumption)
                          obtain ⟨ad305, e305, hx305_0, hx305_1, hx305_2, hx305_3, hx305_4⟩ := at_T47 (Kd.R_reads' HO_3.out).2.2 x6_2 p305 q305
                          cases e305
                          replace p305 := eq_true p305
                          replace q305 := eq_true q305
                          go_wp2_with (first | ((with_reducible refine gate_dst (N := 7) rfl ?_); (try (refine gate_guard (by rfl) ?_; dsimp only)); refine box_event ?hg (N := 7) ?hd (cs := #[.int .i64 0, .int .i64 0, .int .i64 0, .int .i64 0, .int .i64 0]) (t := 47) ?hr ?_; (case hd => rfl); (case hg => rfl); (case hr => first | (go_simp; done) | (go_simp; rfl)); intro gb306 hg w40 hbox hb; have n0_ := Aside0.mk (Kd.R_below (Kd.R_elderB (by (with_reducible repeat (first | apply Kd.R_alloc | apply Kd.R_drewN | apply Kd.R_drew)); exact HO_3.out) gb306 (Nat.le_of_eq hg.symm)) hb); have n1_ := Aside0.mk (below_step (by repeat (first | (with_reducible first | exact HB.out | apply below_alloc | apply pw_below_drewN | apply below_drew1) | exact HB.out)) hb); have n2_ := Aside0.mk (hbox); have n3_ := Aside0.mk ((by rw [hg]; exact (below_size (by repeat (first | (with_reducible first | exact HB.out | apply below_alloc | apply pw_below_drewN | apply below_drew1) | exact HB.out))) : w.heap.size ≤ gb306)); have n4_ := Aside0.mk ((by rw [hg]; exact (below_size (by repeat (first | (with_reducible first | exact HB.out | apply below_alloc | apply pw_below_drewN | apply below_drew1) | exact HB.out))) : w.heap.size ≤ gb306)); clear HO_3; clear HB; have HO_3 := n0_; have HB := n1_; have BK306 := n2_; have GW306 := n3_; have GE306 := n4_; clear n0_ n1_ n2_ n3_ n4_; clear hb hbox hg; have hcz41_0 : w40.cell? ⟨gb306, 0, none⟩ = some (.int .i64 0) := (blk_cell BK306.out 0).trans rfl; have hcz41_1 : w40.cell? ⟨gb306, 1, none⟩ = some (.int .i64 0) := (blk_cell BK306.out 1).trans rfl; have hcz41_2 : w40.cell? ⟨gb306, 2, none⟩ = some (.int .i64 0) := (blk_cell BK306.out 2).trans rfl; have hcz41_3 : w40.cell? ⟨gb306, 3, none⟩ = some (.int .i64 0) := (blk_cell BK306.out 3).trans rfl; have hcz41_4 : w40.cell? ⟨gb306, 4, none⟩ = some (.int .i64 0) := (blk_cell BK306.out 4).trans rfl; have hfz41_0 := blk_frozen BK306.out 0; have hfz41_1 := blk_frozen BK306.out 1; have hfz41_2 := blk_frozen BK306.out 2; have hfz41_3 := blk_frozen BK306.out 3; have hfz41_4 := blk_frozen BK306.out 4) | (go_at_call 30; (with_reducible refine (impl_ItmOk.calls ((rd_T47 t302 x6_2).f0) ((rd_T47 t302 x6_2).f1) ((rd_T47 t302 x6_2).f2) ((rd_T47 t302 x6_2).f3) ((rd_T47 t302 x6_2).f4) true _ A12.out).mono ?_); rintro e w42 ⟨rfl, hb⟩; have n0_ := Aside0.mk (Kd.R_below (by (with_reducible repeat (first | apply Kd.R_alloc | apply Kd.R_drewN | apply Kd.R_drew)); exact (Kd.R_mono (Kd.R_far (p := ⟨gb306, 4, none⟩) (Kd.R_far (p := ⟨gb306, 3, none⟩) (Kd.R_far (p := ⟨gb306, 2, none⟩) (Kd.R_far (p := ⟨gb306, 1, none⟩) (Kd.R_far (p := ⟨gb306, 0, none⟩) (Kd.R_mono HO_3.out (fun k_ hk => (⟨hk, hk.2⟩ : _ ∧ k_ ≠ gb306))) (fun _ hk => hk.2) (.int .i64 ((rd_T47 t302 x6_2).f0))) (fun _ hk => hk.2) (.int .i64 ((rd_T47 t302 x6_2).f1))) (fun _ hk => hk.2) (.int .i64 ((rd_T47 t302 x6_2).f2))) (fun _ hk => hk.2) (.int .i64 ((rd_T47 t302 x6_2).f3))) (fun _ hk => hk.2) (.int .i64 ((rd_T47 t302 x6_2).f4))) (fun _ h_ => h_.1))) hb); have n1_ := Aside0.mk (blk_below (g := gb306) (o := .cells #[.int .i64 ((rd_T47 t302 x6_2).f0), .int .i64 ((rd_T47 t302 x6_2).f1), .int .i64 ((rd_T47 t302 x6_2).f2), .int .i64 ((rd_T47 t302 x6_2).f3), .int .i64 ((rd_T47 t302 x6_2).f4)] 47 (0, 0)) (by (with_reducible repeat (first | refine blk_drewN ?_ _ | refine blk_drew ?_ | refine blk_alloc ?_ _)); refine blk_put (cs := #[.int .i64 ((rd_T47 t302 x6_2).f0), .int .i64 ((rd_T47 t302 x6_2).f1), .int .i64 ((rd_T47 t302 x6_2).f2), .int .i64 ((rd_T47 t302 x6_2).f3), .int .i64 0]) ?_ 4 _ rfl; (with_reducible repeat (first | refine blk_drewN ?_ _ | refine blk_drew ?_ | refine blk_alloc ?_ _)); refine blk_put (cs := #[.int .i64 ((rd_T47 t302 x6_2).f0), .int .i64 ((rd_T47 t302 x6_2).f1), .int .i64 ((rd_T47 t302 x6_2).f2), .int .i64 0, .int .i64 0]) ?_ 3 _ rfl; (with_reducible repeat (first | refine blk_drewN ?_ _ | refine blk_drew ?_ | refine blk_alloc ?_ _)); refine blk_put (cs := #[.int .i64 ((rd_T47 t302 x6_2).f0), .int .i64 ((rd_T47 t302 x6_2).f1), .int .i64 0, .int .i64 0, .int .i64 0]) ?_ 2 _ rfl; (with_reducible repeat (first | refine blk_drewN ?_ _ | refine blk_drew ?_ | refine blk_alloc ?_ _)); refine blk_put (cs := #[.int .i64 ((rd_T47 t302 x6_2).f0), .int .i64 0, .int .i64 0, .int .i64 0, .int .i64 0]) ?_ 1 _ rfl; (with_reducible repeat (first | refine blk_drewN ?_ _ | refine blk_drew ?_ | refine blk_alloc ?_ _)); refine blk_put (cs := #[.int .i64 0, .int .i64 0, .int .i64 0, .int .i64 0, .int .i64 0]) ?_ 0 _ rfl; (with_reducible repeat (first | refine blk_drewN ?_ _ | refine blk_drew ?_ | refine blk_alloc ?_ _)); exact BK306.out) hb); have n2_ := Aside0.mk (below_step (by repeat (first | (with_reducible first | exact HB.out | apply below_alloc | apply pw_below_drewN | apply below_drew1 | refine below_set ?_ GE306.out) | exact HB.out)) hb); clear HO_3; clear BK306; clear HB; have HO_3 := n0_; have BK306 := n1_; have HB := n2_; clear n0_ n1_ n2_; (try clear hb); (try clear hb2); (try clear hk); (try clear hi); have hcz43_0 : w42.cell? ⟨gb306, 0, none⟩ = some (.int .i64 ((rd_T47 t302 x6_2).f0)) := (blk_cell BK306.out 0).trans rfl; have hcz43_1 : w42.cell? ⟨gb306, 1, none⟩ = some (.int .i64 ((rd_T47 t302 x6_2).f1)) := (blk_cell BK306.out 1).trans rfl; have hcz43_2 : w42.cell? ⟨gb306, 2, none⟩ = some (.int .i64 ((rd_T47 t302 x6_2).f2)) := (blk_cell BK306.out 2).trans rfl; have hcz43_3 : w42.cell? ⟨gb306, 3, none⟩ = some (.int .i64 ((rd_T47 t302 x6_2).f3)) := (blk_cell BK306.out 3).trans rfl; have hcz43_4 : w42.cell? ⟨gb306, 4, none⟩ = some (.int .i64 ((rd_T47 t302 x6_2).f4)) := (blk_cell BK306.out 4).trans rfl; have hfz43_0 := blk_frozen BK306.out 0; have hfz43_1 := blk_frozen BK306.out 1; have hfz43_2 := blk_frozen BK306.out 2; have hfz43_3 := blk_frozen BK306.out 3; have hfz43_4 := blk_frozen BK306.out 4))
                          go_roundg k2
                          case measure => have := HJ3.out; have := HK2.out; omega
                          case rel => exact ⟨(decide (((rd_T47 t302 x6_2).f1) > x5_2)), (x5_2), (wrap64 (x6_2 + 1)), (by first | rfl | (simp; done) | (simp [*]; done)), (by first | rfl | (simp; done) | (simp [*]; done)), (by first | rfl | (simp; done) | (simp [*]; done)), H', ⟨by have := HJ3.out; have := HK2.out; omega⟩, ⟨by (with_reducible repeat (first | apply Kd.R_alloc | apply Kd.R_drewN | apply Kd.R_drew)); exact Kd.R_mono HO_3.out (fun _ hk => trivial)⟩, ⟨by repeat (first | (with_reducible first | exact HB.out | apply below_alloc | apply pw_below_drewN | apply below_drew1 | refine below_set ?_ GE306.out) | exact HB.out)⟩⟩
                      · rw [if_neg c32] at H
                        have c32b0 : (((rd_T47 t302 x6_2).f0) == 2) = false := beq_eq_false_iff_ne.mpr c32
                        have c32b1 : (((rd_T47 t302 x6_2).f0) != 2) = true := bne_iff_ne.mpr c32
                        have H' := Aside0.mk H
                        clear H
                        obtain ⟨Ao44, co44, eo44⟩ := Kd.R_slice HO_3.out
                        subst eo44
                        have p305 : 0 ≤ (x6_2 : Int) := of_decide_eq_true (by first | (with_reducible assumption) | assumption)
                        have q305 : x6_2 < (t302.length : Int) := of_decide_eq_true (by first | (with_reducible assumption) | assumption)
                        obtain ⟨ad305, e305, hx305_0, hx305_1, hx305_2, hx305_3, hx305_4⟩ := at_T47 (Kd.R_reads' HO_3.out).2.2 x6_2 p305 q305
                        cases e305
                        replace p305 := eq_true p305
                        replace q305 := eq_true q305
                        go_wp2_with (first | ((with_reducible refine gate_dst (N := 7) rfl ?_); (try (refine gate_guard (by rfl) ?_; dsimp only)); refine box_event ?hg (N := 7) ?hd (cs := #[.int .i64 0, .int .i64 0, .int .i64 0, .int .i64 0, .int .i64 0]) (t := 47) ?hr ?_; (case hd => rfl); (case hg => rfl); (case hr => first | (go_simp; done) | (go_simp; rfl)); intro gb306 hg w45 hbox hb; have n0_ := Aside0.mk (Kd.R_below (Kd.R_elderB (by (with_reducible repeat (first | apply Kd.R_alloc | apply Kd.R_drewN | apply Kd.R_drew)); exact HO_3.out) gb306 (Nat.le_of_eq hg.symm)) hb); have n1_ := Aside0.mk (below_step (by repeat (first | (with_reducible first | exact HB.out | apply below_alloc | apply pw_below_drewN | apply below_drew1) | exact HB.out)) hb); have n2_ := Aside0.mk (hbox); have n3_ := Aside0.mk ((by rw [hg]; exact (below_size (by repeat (first | (with_reducible first | exact HB.out | apply below_alloc | apply pw_below_drewN | apply below_drew1) | exact HB.out))) : w.heap.size ≤ gb306)); have n4_ := Aside0.mk ((by rw [hg]; exact (below_size (by repeat (first | (with_reducible first | exact HB.out | apply below_alloc | apply pw_below_drewN | apply below_drew1) | exact HB.out))) : w.heap.size ≤ gb306)); clear HO_3; clear HB; have HO_3 := n0_; have HB := n1_; have BK306 := n2_; have GW306 := n3_; have GE306 := n4_; clear n0_ n1_ n2_ n3_ n4_; clear hb hbox hg; have hcz46_0 : w45.cell? ⟨gb306, 0, none⟩ = some (.int .i64 0) := (blk_cell BK306.out 0).trans rfl; have hcz46_1 : w45.cell? ⟨gb306, 1, none⟩ = some (.int .i64 0) := (blk_cell BK306.out 1).trans rfl; have hcz46_2 : w45.cell? ⟨gb306, 2, none⟩ = some (.int .i64 0) := (blk_cell BK306.out 2).trans rfl; have hcz46_3 : w45.cell? ⟨gb306, 3, none⟩ = some (.int .i64 0) := (blk_cell BK306.out 3).trans rfl; have hcz46_4 : w45.cell? ⟨gb306, 4, none⟩ = some (.int .i64 0) := (blk_cell BK306.out 4).trans rfl; have hfz46_0 := blk_frozen BK306.out 0; have hfz46_1 := blk_frozen BK306.out 1; have hfz46_2 := blk_frozen BK306.out 2; have hfz46_3 := blk_frozen BK306.out 3; have hfz46_4 := blk_frozen BK306.out 4) | (go_at_call 30; (with_reducible refine (impl_ItmOk.calls ((rd_T47 t302 x6_2).f0) ((rd_T47 t302 x6_2).f1) ((rd_T47 t302 x6_2).f2) ((rd_T47 t302 x6_2).f3) ((rd_T47 t302 x6_2).f4) true _ A12.out).mono ?_); rintro e w47 ⟨rfl, hb⟩; have n0_ := Aside0.mk (Kd.R_below (by (with_reducible repeat (first | apply Kd.R_alloc | apply Kd.R_drewN | apply Kd.R_drew)); exact (Kd.R_mono (Kd.R_far (p := ⟨gb306, 4, none⟩) (Kd.R_far (p := ⟨gb306, 3, none⟩) (Kd.R_far (p := ⟨gb306, 2, none⟩) (Kd.R_far (p := ⟨gb306, 1, none⟩) (Kd.R_far (p := ⟨gb306, 0, none⟩) (Kd.R_mono HO_3.out (fun k_ hk => (⟨hk, hk.2⟩ : _ ∧ k_ ≠ gb306))) (fun _ hk => hk.2) (.int .i64 ((rd_T47 t302 x6_2).f0))) (fun _ hk => hk.2) (.int .i64 ((rd_T47 t302 x6_2).f1))) (fun _ hk => hk.2) (.int .i64 ((rd_T47 t302 x6_2).f2))) (fun _ hk => hk.2) (.int .i64 ((rd_T47 t302 x6_2).f3))) (fun _ hk => hk.2) (.int .i64 ((rd_T47 t302 x6_2).f4))) (fun _ h_ => h_.1))) hb); have n1_ := Aside0.mk (blk_below (g := gb306) (o := .cells #[.int .i64 ((rd_T47 t302 x6_2).f0), .int .i64 ((rd_T47 t302 x6_2).f1), .int .i64 ((rd_T47 t302 x6_2).f2), .int .i64 ((rd_T47 t302 x6_2).f3), .int .i64 ((rd_T47 t302 x6_2).f4)] 47 (0, 0)) (by (with_reducible repeat (first | refine blk_drewN ?_ _ | refine blk_drew ?_ | refine blk_alloc ?_ _)); refine blk_put (cs := #[.int .i64 ((rd_T47 t302 x6_2).f0), .int .i64 ((rd_T47 t302 x6_2).f1), .int .i64 ((rd_T47 t302 x6_2).f2), .int .i64 ((rd_T47 t302 x6_2).f3), .int .i64 0]) ?_ 4 _ rfl; (with_reducible repeat (first | refine blk_drewN ?_ _ | refine blk_drew ?_ | refine blk_alloc ?_ _)); refine blk_put (cs := #[.int .i64 ((rd_T47 t302 x6_2).f0), .int .i64 ((rd_T47 t302 x6_2).f1), .int .i64 ((rd_T47 t302 x6_2).f2), .int .i64 0, .int .i64 0]) ?_ 3 _ rfl; (with_reducible repeat (first | refine blk_drewN ?_ _ | refine blk_drew ?_ | refine blk_alloc ?_ _)); refine blk_put (cs := #[.int .i64 ((rd_T47 t302 x6_2).f0), .int .i64 ((rd_T47 t302 x6_2).f1), .int .i64 0, .int .i64 0, .int .i64 0]) ?_ 2 _ rfl; (with_reducible repeat (first | refine blk_drewN ?_ _ | refine blk_drew ?_ | refine blk_alloc ?_ _)); refine blk_put (cs := #[.int .i64 ((rd_T47 t302 x6_2).f0), .int .i64 0, .int .i64 0, .int .i64 0, .int .i64 0]) ?_ 1 _ rfl; (with_reducible repeat (first | refine blk_drewN ?_ _ | refine blk_drew ?_ | refine blk_alloc ?_ _)); refine blk_put (cs := #[.int .i64 0, .int .i64 0, .int .i64 0, .int .i64 0, .int .i64 0]) ?_ 0 _ rfl; (with_reducible repeat (first | refine blk_drewN ?_ _ | refine blk_drew ?_ | refine blk_alloc ?_ _)); exact BK306.out) hb); have n2_ := Aside0.mk (below_step (by repeat (first | (with_reducible first | exact HB.out | apply below_alloc | apply pw_below_drewN | apply below_drew1 | refine below_set ?_ GE306.out) | exact HB.out)) hb); clear HO_3; clear BK306; clear HB; have HO_3 := n0_; have BK306 := n1_; have HB := n2_; clear n0_ n1_ n2_; (try clear hb); (try clear hb2); (try clear hk); (try clear hi); have hcz48_0 : w47.cell? ⟨gb306, 0, none⟩ = some (.int .i64 ((rd_T47 t302 x6_2).f0)) := (blk_cell BK306.out 0).trans rfl; have hcz48_1 : w47.cell? ⟨gb306, 1, none⟩ = some (.int .i64 ((rd_T47 t302 x6_2).f1)) := (blk_cell BK306.out 1).trans rfl; have hcz48_2 : w47.cell? ⟨gb306, 2, none⟩ = some (.int .i64 ((rd_T47 t302 x6_2).f2)) := (blk_cell BK306.out 2).trans rfl; have hcz48_3 : w47.cell? ⟨gb306, 3, none⟩ = some (.int .i64 ((rd_T47 t302 x6_2).f3)) := (blk_cell BK306.out 3).trans rfl; have hcz48_4 : w47.cell? ⟨gb306, 4, none⟩ = some (.int .i64 ((rd_T47 t302 x6_2).f4)) := (blk_cell BK306.out 4).trans rfl; have hfz48_0 := blk_frozen BK306.out 0; have hfz48_1 := blk_frozen BK306.out 1; have hfz48_2 := blk_frozen BK306.out 2; have hfz48_3 := blk_frozen BK306.out 3; have hfz48_4 := blk_frozen BK306.out 4))
                        go_roundg k2
                        case measure => have := HJ3.out; have := HK2.out; omega
                        case rel => exact ⟨(true), (x5_2), (wrap64 (x6_2 + 1)), (by first | rfl | (simp; done) | (simp [*]; done)), (by first | rfl | (simp; done) | (simp [*]; done)), (by first | rfl | (simp; done) | (simp [*]; done)), H', ⟨by have := HJ3.out; have := HK2.out; omega⟩, ⟨by (with_reducible repeat (first | apply Kd.R_alloc | apply Kd.R_drewN | apply Kd.R_drew)); exact Kd.R_mono HO_3.out (fun _ hk => trivial)⟩, ⟨by repeat (first | (with_reducible first | exact HB.out | apply below_alloc | apply pw_below_drewN | apply below_drew1 | refine below_set ?_ GE306.out) | exact HB.out)⟩⟩
                  · replace c13 := Bool.eq_false_iff.mpr c13
                    subst c13
                    have H1 : (if ((rd_T47 t302 x6_2).f0) = 2 then (if ((rd_T47 t302 x6_2).f1) > x5_2 then (laws_FnLogOk.l0 k2 t302 false ((rd_T47 t302 x6_2).f1) (wrap64 (x6_2 + 1))) else (laws_FnLogOk.l0 k2 t302 false x5_2 (wrap64 (x6_2 + 1)))) else (laws_FnLogOk.l0 k2 t302 false x5_2 (wrap64 (x6_2 + 1)))) = some true := by rw [if_neg (show ¬ (false = true) by decide)] at H; exact H
                    clear H
                    have H := H1
                    clear H1
                    by_cases c49 : ((rd_T47 t302 x6_2).f0) = 2
                    · rw [if_pos c49] at H
                      have c49b0 : (((rd_T47 t302 x6_2).f0) == 2) = true := beq_iff_eq.mpr c49
                      have c49b1 : (((rd_T47 t302 x6_2).f0) != 2) = false := bne_eq_false_iff_eq.mpr c49
                      clear c49
                      by_cases c50 : ((rd_T47 t302 x6_2).f1) > x5_2
                      · rw [if_pos c50] at H
                        have c50b0 : decide (x5_2 < ((rd_T47 t302 x6_2).f1)) = true := decide_eq_true c50
                        clear c50
                        have H' := Aside0.mk H
                        clear H
                        obtain ⟨Ao51, co51, eo51⟩ := Kd.R_slice HO_3.out
                        subst eo51
                        have p305 : 0 ≤ (x6_2 : Int) := of_decide_eq_true (by first | (with_reducible assumption) | assumption)
                        have q305 : x6_2 < (t302.length : Int) := of_decide_eq_true (by first | (with_reducible assumption) | assumption)
                        obtain ⟨ad305, e305, hx305_0, hx305_1, hx305_2, hx305_3, hx305_4⟩ := at_T47 (Kd.R_reads' HO_3.out).2.2 x6_2 p305 q305
                        cases e305
                        replace p305 := eq_true p305
                        replace q305 := eq_true q305
                        go_wp2_with (first | ((with_reducible refine gate_dst (N := 7) rfl ?_); (try (refine gate_guard (by rfl) ?_; dsimp only)); refine box_event ?hg (N := 7) ?hd (cs := #[.int .i64 0, .int .i64 0, .int .i64 0, .int .i64 0, .int .i64 0]) (t := 47) ?hr ?_; (case hd => rfl); (case hg => rfl); (case hr => first | (go_simp; done) | (go_simp; rfl)); intro gb306 hg w52 hbox hb; have n0_ := Aside0.mk (Kd.R_below (Kd.R_elderB (by (with_reducible repeat (first | apply Kd.R_alloc | apply Kd.R_drewN | apply Kd.R_drew)); exact HO_3.out) gb306 (Nat.le_of_eq hg.symm)) hb); have n1_ := Aside0.mk (below_step (by repeat (first | (with_reducible first | exact HB.out | apply below_alloc | apply pw_below_drewN | apply below_drew1) | exact HB.out)) hb); have n2_ := Aside0.mk (hbox); have n3_ := Aside0.mk ((by rw [hg]; exact (below_size (by repeat (first | (with_reducible first | exact HB.out | apply below_alloc | apply pw_below_drewN | apply below_drew1) | exact HB.out))) : w.heap.size ≤ gb306)); have n4_ := Aside0.mk ((by rw [hg]; exact (below_size (by repeat (first | (with_reducible first | exact HB.out | apply below_alloc | apply pw_below_drewN | apply below_drew1) | exact HB.out))) : w.heap.size ≤ gb306)); clear HO_3; clear HB; have HO_3 := n0_; have HB := n1_; have BK306 := n2_; have GW306 := n3_; have GE306 := n4_; clear n0_ n1_ n2_ n3_ n4_; clear hb hbox hg; have hcz53_0 : w52.cell? ⟨gb306, 0, none⟩ = some (.int .i64 0) := (blk_cell BK306.out 0).trans rfl; have hcz53_1 : w52.cell? ⟨gb306, 1, none⟩ = some (.int .i64 0) := (blk_cell BK306.out 1).trans rfl; have hcz53_2 : w52.cell? ⟨gb306, 2, none⟩ = some (.int .i64 0) := (blk_cell BK306.out 2).trans rfl; have hcz53_3 : w52.cell? ⟨gb306, 3, none⟩ = some (.int .i64 0) := (blk_cell BK306.out 3).trans rfl; have hcz53_4 : w52.cell? ⟨gb306, 4, none⟩ = some (.int .i64 0) := (blk_cell BK306.out 4).trans rfl; have hfz53_0 := blk_frozen BK306.out 0; have hfz53_1 := blk_frozen BK306.out 1; have hfz53_2 := blk_frozen BK306.out 2; have hfz53_3 := blk_frozen BK306.out 3; have hfz53_4 := blk_frozen BK306.out 4) | (go_at_call 30; (with_reducible refine (impl_ItmOk.calls ((rd_T47 t302 x6_2).f0) ((rd_T47 t302 x6_2).f1) ((rd_T47 t302 x6_2).f2) ((rd_T47 t302 x6_2).f3) ((rd_T47 t302 x6_2).f4) false _ A12.out).mono ?_); rintro e w54 ⟨rfl, hb⟩; have n0_ := Aside0.mk (Kd.R_below (by (with_reducible repeat (first | apply Kd.R_alloc | apply Kd.R_drewN | apply Kd.R_drew)); exact (Kd.R_mono (Kd.R_far (p := ⟨gb306, 4, none⟩) (Kd.R_far (p := ⟨gb306, 3, none⟩) (Kd.R_far (p := ⟨gb306, 2, none⟩) (Kd.R_far (p := ⟨gb306, 1, none⟩) (Kd.R_far (p := ⟨gb306, 0, none⟩) (Kd.R_mono HO_3.out (fun k_ hk => (⟨hk, hk.2⟩ : _ ∧ k_ ≠ gb306))) (fun _ hk => hk.2) (.int .i64 ((rd_T47 t302 x6_2).f0))) (fun _ hk => hk.2) (.int .i64 ((rd_T47 t302 x6_2).f1))) (fun _ hk => hk.2) (.int .i64 ((rd_T47 t302 x6_2).f2))) (fun _ hk => hk.2) (.int .i64 ((rd_T47 t302 x6_2).f3))) (fun _ hk => hk.2) (.int .i64 ((rd_T47 t302 x6_2).f4))) (fun _ h_ => h_.1))) hb); have n1_ := Aside0.mk (blk_below (g := gb306) (o := .cells #[.int .i64 ((rd_T47 t302 x6_2).f0), .int .i64 ((rd_T47 t302 x6_2).f1), .int .i64 ((rd_T47 t302 x6_2).f2), .int .i64 ((rd_T47 t302 x6_2).f3), .int .i64 ((rd_T47 t302 x6_2).f4)] 47 (0, 0)) (by (with_reducible repeat (first | refine blk_drewN ?_ _ | refine blk_drew ?_ | refine blk_alloc ?_ _)); refine blk_put (cs := #[.int .i64 ((rd_T47 t302 x6_2).f0), .int .i64 ((rd_T47 t302 x6_2).f1), .int .i64 ((rd_T47 t302 x6_2).f2), .int .i64 ((rd_T47 t302 x6_2).f3), .int .i64 0]) ?_ 4 _ rfl; (with_reducible repeat (first | refine blk_drewN ?_ _ | refine blk_drew ?_ | refine blk_alloc ?_ _)); refine blk_put (cs := #[.int .i64 ((rd_T47 t302 x6_2).f0), .int .i64 ((rd_T47 t302 x6_2).f1), .int .i64 ((rd_T47 t302 x6_2).f2), .int .i64 0, .int .i64 0]) ?_ 3 _ rfl; (with_reducible repeat (first | refine blk_drewN ?_ _ | refine blk_drew ?_ | refine blk_alloc ?_ _)); refine blk_put (cs := #[.int .i64 ((rd_T47 t302 x6_2).f0), .int .i64 ((rd_T47 t302 x6_2).f1), .int .i64 0, .int .i64 0, .int .i64 0]) ?_ 2 _ rfl; (with_reducible repeat (first | refine blk_drewN ?_ _ | refine blk_drew ?_ | refine blk_alloc ?_ _)); refine blk_put (cs := #[.int .i64 ((rd_T47 t302 x6_2).f0), .int .i64 0, .int .i64 0, .int .i64 0, .int .i64 0]) ?_ 1 _ rfl; (with_reducible repeat (first | refine blk_drewN ?_ _ | refine blk_drew ?_ | refine blk_alloc ?_ _)); refine blk_put (cs := #[.int .i64 0, .int .i64 0, .int .i64 0, .int .i64 0, .int .i64 0]) ?_ 0 _ rfl; (with_reducible repeat (first | refine blk_drewN ?_ _ | refine blk_drew ?_ | refine blk_alloc ?_ _)); exact BK306.out) hb); have n2_ := Aside0.mk (below_step (by repeat (first | (with_reducible first | exact HB.out | apply below_alloc | apply pw_below_drewN | apply below_drew1 | refine below_set ?_ GE306.out) | exact HB.out)) hb); clear HO_3; clear BK306; clear HB; have HO_3 := n0_; have BK306 := n1_; have HB := n2_; clear n0_ n1_ n2_; (try clear hb); (try clear hb2); (try clear hk); (try clear hi); have hcz55_0 : w54.cell? ⟨gb306, 0, none⟩ = some (.int .i64 ((rd_T47 t302 x6_2).f0)) := (blk_cell BK306.out 0).trans rfl; have hcz55_1 : w54.cell? ⟨gb306, 1, none⟩ = some (.int .i64 ((rd_T47 t302 x6_2).f1)) := (blk_cell BK306.out 1).trans rfl; have hcz55_2 : w54.cell? ⟨gb306, 2, none⟩ = some (.int .i64 ((rd_T47 t302 x6_2).f2)) := (blk_cell BK306.out 2).trans rfl; have hcz55_3 : w54.cell? ⟨gb306, 3, none⟩ = some (.int .i64 ((rd_T47 t302 x6_2).f3)) := (blk_cell BK306.out 3).trans rfl; have hcz55_4 : w54.cell? ⟨gb306, 4, none⟩ = some (.int .i64 ((rd_T47 t302 x6_2).f4)) := (blk_cell BK306.out 4).trans rfl; have hfz55_0 := blk_frozen BK306.out 0; have hfz55_1 := blk_frozen BK306.out 1; have hfz55_2 := blk_frozen BK306.out 2; have hfz55_3 := blk_frozen BK306.out 3; have hfz55_4 := blk_frozen BK306.out 4))
                        go_roundg k2
                        case measure => have := HJ3.out; have := HK2.out; omega
                        case rel => exact ⟨(false), ((rd_T47 t302 x6_2).f1), (wrap64 (x6_2 + 1)), (by first | rfl | (simp; done) | (simp [*]; done)), (by first | rfl | (simp; done) | (simp [*]; done)), (by first | rfl | (simp; done) | (simp [*]; done)), H', ⟨by have := HJ3.out; have := HK2.out; omega⟩, ⟨by (with_reducible repeat (first | apply Kd.R_alloc | apply Kd.R_drewN | apply Kd.R_drew)); exact Kd.R_mono HO_3.out (fun _ hk => trivial)⟩, ⟨by repeat (first | (with_reducible first | exact HB.out | apply below_alloc | apply pw_below_drewN | apply below_drew1 | refine below_set ?_ GE306.out) | exact HB.out)⟩⟩
                      · rw [if_neg c50] at H
                        have c50b0 : decide (x5_2 < ((rd_T47 t302 x6_2).f1)) = false := decide_eq_false c50
                        clear c50
                        have H' := Aside0.mk H
                        clear H
                        obtain ⟨Ao56, co56, eo56⟩ := Kd.R_slice HO_3.out
                        subst eo56
                        have p305 : 0 ≤ (x6_2 : Int) := of_decide_eq_true (by first | (with_reducible assumption) | assumption)
                        have q305 : x6_2 < (t302.length : Int) := of_decide_eq_true (by first | (with_reducible assumption) | assumption)
                        obtain ⟨ad305, e305, hx305_0, hx305_1, hx305_2, hx305_3, hx305_4⟩ := at_T47 (Kd.R_reads' HO_3.out).2.2 x6_2 p305 q305
                        cases e305
                        replace p305 := eq_true p305
                        replace q305 := eq_true q305
                        go_wp2_with (first | ((with_reducible refine gate_dst (N := 7) rfl ?_); (try (refine gate_guard (by rfl) ?_; dsimp only)); refine box_event ?hg (N := 7) ?hd (cs := #[.int .i64 0, .int .i64 0, .int .i64 0, .int .i64 0, .int .i64 0]) (t := 47) ?hr ?_; (case hd => rfl); (case hg => rfl); (case hr => first | (go_simp; done) | (go_simp; rfl)); intro gb306 hg w57 hbox hb; have n0_ := Aside0.mk (Kd.R_below (Kd.R_elderB (by (with_reducible repeat (first | apply Kd.R_alloc | apply Kd.R_drewN | apply Kd.R_drew)); exact HO_3.out) gb306 (Nat.le_of_eq hg.symm)) hb); have n1_ := Aside0.mk (below_step (by repeat (first | (with_reducible first | exact HB.out | apply below_alloc | apply pw_below_drewN | apply below_drew1) | exact HB.out)) hb); have n2_ := Aside0.mk (hbox); have n3_ := Aside0.mk ((by rw [hg]; exact (below_size (by repeat (first | (with_reducible first | exact HB.out | apply below_alloc | apply pw_below_drewN | apply below_drew1) | exact HB.out))) : w.heap.size ≤ gb306)); have n4_ := Aside0.mk ((by rw [hg]; exact (below_size (by repeat (first | (with_reducible first | exact HB.out | apply below_alloc | apply pw_below_drewN | apply below_drew1) | exact HB.out))) : w.heap.size ≤ gb306)); clear HO_3; clear HB; have HO_3 := n0_; have HB := n1_; have BK306 := n2_; have GW306 := n3_; have GE306 := n4_; clear n0_ n1_ n2_ n3_ n4_; clear hb hbox hg; have hcz58_0 : w57.cell? ⟨gb306, 0, none⟩ = some (.int .i64 0) := (blk_cell BK306.out 0).trans rfl; have hcz58_1 : w57.cell? ⟨gb306, 1, none⟩ = some (.int .i64 0) := (blk_cell BK306.out 1).trans rfl; have hcz58_2 : w57.cell? ⟨gb306, 2, none⟩ = some (.int .i64 0) := (blk_cell BK306.out 2).trans rfl; have hcz58_3 : w57.cell? ⟨gb306, 3, none⟩ = some (.int .i64 0) := (blk_cell BK306.out 3).trans rfl; have hcz58_4 : w57.cell? ⟨gb306, 4, none⟩ = some (.int .i64 0) := (blk_cell BK306.out 4).trans rfl; have hfz58_0 := blk_frozen BK306.out 0; have hfz58_1 := blk_frozen BK306.out 1; have hfz58_2 := blk_frozen BK306.out 2; have hfz58_3 := blk_frozen BK306.out 3; have hfz58_4 := blk_frozen BK306.out 4) | (go_at_call 30; (with_reducible refine (impl_ItmOk.calls ((rd_T47 t302 x6_2).f0) ((rd_T47 t302 x6_2).f1) ((rd_T47 t302 x6_2).f2) ((rd_T47 t302 x6_2).f3) ((rd_T47 t302 x6_2).f4) false _ A12.out).mono ?_); rintro e w59 ⟨rfl, hb⟩; have n0_ := Aside0.mk (Kd.R_below (by (with_reducible repeat (first | apply Kd.R_alloc | apply Kd.R_drewN | apply Kd.R_drew)); exact (Kd.R_mono (Kd.R_far (p := ⟨gb306, 4, none⟩) (Kd.R_far (p := ⟨gb306, 3, none⟩) (Kd.R_far (p := ⟨gb306, 2, none⟩) (Kd.R_far (p := ⟨gb306, 1, none⟩) (Kd.R_far (p := ⟨gb306, 0, none⟩) (Kd.R_mono HO_3.out (fun k_ hk => (⟨hk, hk.2⟩ : _ ∧ k_ ≠ gb306))) (fun _ hk => hk.2) (.int .i64 ((rd_T47 t302 x6_2).f0))) (fun _ hk => hk.2) (.int .i64 ((rd_T47 t302 x6_2).f1))) (fun _ hk => hk.2) (.int .i64 ((rd_T47 t302 x6_2).f2))) (fun _ hk => hk.2) (.int .i64 ((rd_T47 t302 x6_2).f3))) (fun _ hk => hk.2) (.int .i64 ((rd_T47 t302 x6_2).f4))) (fun _ h_ => h_.1))) hb); have n1_ := Aside0.mk (blk_below (g := gb306) (o := .cells #[.int .i64 ((rd_T47 t302 x6_2).f0), .int .i64 ((rd_T47 t302 x6_2).f1), .int .i64 ((rd_T47 t302 x6_2).f2), .int .i64 ((rd_T47 t302 x6_2).f3), .int .i64 ((rd_T47 t302 x6_2).f4)] 47 (0, 0)) (by (with_reducible repeat (first | refine blk_drewN ?_ _ | refine blk_drew ?_ | refine blk_alloc ?_ _)); refine blk_put (cs := #[.int .i64 ((rd_T47 t302 x6_2).f0), .int .i64 ((rd_T47 t302 x6_2).f1), .int .i64 ((rd_T47 t302 x6_2).f2), .int .i64 ((rd_T47 t302 x6_2).f3), .int .i64 0]) ?_ 4 _ rfl; (with_reducible repeat (first | refine blk_drewN ?_ _ | refine blk_drew ?_ | refine blk_alloc ?_ _)); refine blk_put (cs := #[.int .i64 ((rd_T47 t302 x6_2).f0), .int .i64 ((rd_T47 t302 x6_2).f1), .int .i64 ((rd_T47 t302 x6_2).f2), .int .i64 0, .int .i64 0]) ?_ 3 _ rfl; (with_reducible repeat (first | refine blk_drewN ?_ _ | refine blk_drew ?_ | refine blk_alloc ?_ _)); refine blk_put (cs := #[.int .i64 ((rd_T47 t302 x6_2).f0), .int .i64 ((rd_T47 t302 x6_2).f1), .int .i64 0, .int .i64 0, .int .i64 0]) ?_ 2 _ rfl; (with_reducible repeat (first | refine blk_drewN ?_ _ | refine blk_drew ?_ | refine blk_alloc ?_ _)); refine blk_put (cs := #[.int .i64 ((rd_T47 t302 x6_2).f0), .int .i64 0, .int .i64 0, .int .i64 0, .int .i64 0]) ?_ 1 _ rfl; (with_reducible repeat (first | refine blk_drewN ?_ _ | refine blk_drew ?_ | refine blk_alloc ?_ _)); refine blk_put (cs := #[.int .i64 0, .int .i64 0, .int .i64 0, .int .i64 0, .int .i64 0]) ?_ 0 _ rfl; (with_reducible repeat (first | refine blk_drewN ?_ _ | refine blk_drew ?_ | refine blk_alloc ?_ _)); exact BK306.out) hb); have n2_ := Aside0.mk (below_step (by repeat (first | (with_reducible first | exact HB.out | apply below_alloc | apply pw_below_drewN | apply below_drew1 | refine below_set ?_ GE306.out) | exact HB.out)) hb); clear HO_3; clear BK306; clear HB; have HO_3 := n0_; have BK306 := n1_; have HB := n2_; clear n0_ n1_ n2_; (try clear hb); (try clear hb2); (try clear hk); (try clear hi); have hcz60_0 : w59.cell? ⟨gb306, 0, none⟩ = some (.int .i64 ((rd_T47 t302 x6_2).f0)) := (blk_cell BK306.out 0).trans rfl; have hcz60_1 : w59.cell? ⟨gb306, 1, none⟩ = some (.int .i64 ((rd_T47 t302 x6_2).f1)) := (blk_cell BK306.out 1).trans rfl; have hcz60_2 : w59.cell? ⟨gb306, 2, none⟩ = some (.int .i64 ((rd_T47 t302 x6_2).f2)) := (blk_cell BK306.out 2).trans rfl; have hcz60_3 : w59.cell? ⟨gb306, 3, none⟩ = some (.int .i64 ((rd_T47 t302 x6_2).f3)) := (blk_cell BK306.out 3).trans rfl; have hcz60_4 : w59.cell? ⟨gb306, 4, none⟩ = some (.int .i64 ((rd_T47 t302 x6_2).f4)) := (blk_cell BK306.out 4).trans rfl; have hfz60_0 := blk_frozen BK306.out 0; have hfz60_1 := blk_frozen BK306.out 1; have hfz60_2 := blk_frozen BK306.out 2; have hfz60_3 := blk_frozen BK306.out 3; have hfz60_4 := blk_frozen BK306.out 4))
                        go_roundg k2
                        case measure => have := HJ3.out; have := HK2.out; omega
                        case rel => exact ⟨(false), (x5_2), (wrap64 (x6_2 + 1)), (by first | rfl | (simp; done) | (simp [*]; done)), (by first | rfl | (simp; done) | (simp [*]; done)), (by first | rfl | (simp; done) | (simp [*]; done)), H', ⟨by have := HJ3.out; have := HK2.out; omega⟩, ⟨by (with_reducible repeat (first | apply Kd.R_alloc | apply Kd.R_drewN | apply Kd.R_drew)); exact Kd.R_mono HO_3.out (fun _ hk => trivial)⟩, ⟨by repeat (first | (with_reducible first | exact HB.out | apply below_alloc | apply pw_below_drewN | apply below_drew1 | refine below_set ?_ GE306.out) | exact HB.out)⟩⟩
                    · rw [if_neg c49] at H
                      have c49b0 : (((rd_T47 t302 x6_2).f0) == 2) = false := beq_eq_false_iff_ne.mpr c49
                      have c49b1 : (((rd_T47 t302 x6_2).f0) != 2) = true := bne_iff_ne.mpr c49
                      have H' := Aside0.mk H
                      clear H
                      obtain ⟨Ao61, co61, eo61⟩ := Kd.R_slice HO_3.out
                      subst eo61
                      have p305 : 0 ≤ (x6_2 : Int) := of_decide_eq_true (by first | (with_reducible assumption) | assumption)
                      have q305 : x6_2 < (t302.length : Int) := of_decide_eq_true (by first | (with_reducible assumption) | assumption)
                      obtain ⟨ad305, e305, hx305_0, hx305_1, hx305_2, hx305_3, hx305_4⟩ := at_T47 (Kd.R_reads' HO_3.out).2.2 x6_2 p305 q305
                      cases e305
                      replace p305 := eq_true p305
                      replace q305 := eq_true q305
                      go_wp2_with (first | ((with_reducible refine gate_dst (N := 7) rfl ?_); (try (refine gate_guard (by rfl) ?_; dsimp only)); refine box_event ?hg (N := 7) ?hd (cs := #[.int .i64 0, .int .i64 0, .int .i64 0, .int .i64 0, .int .i64 0]) (t := 47) ?hr ?_; (case hd => rfl); (case hg => rfl); (case hr => first | (go_simp; done) | (go_simp; rfl)); intro gb306 hg w62 hbox hb; have n0_ := Aside0.mk (Kd.R_below (Kd.R_elderB (by (with_reducible repeat (first | apply Kd.R_alloc | apply Kd.R_drewN | apply Kd.R_drew)); exact HO_3.out) gb306 (Nat.le_of_eq hg.symm)) hb); have n1_ := Aside0.mk (below_step (by repeat (first | (with_reducible first | exact HB.out | apply below_alloc | apply pw_below_drewN | apply below_drew1) | exact HB.out)) hb); have n2_ := Aside0.mk (hbox); have n3_ := Aside0.mk ((by rw [hg]; exact (below_size (by repeat (first | (with_reducible first | exact HB.out | apply below_alloc | apply pw_below_drewN | apply below_drew1) | exact HB.out))) : w.heap.size ≤ gb306)); have n4_ := Aside0.mk ((by rw [hg]; exact (below_size (by repeat (first | (with_reducible first | exact HB.out | apply below_alloc | apply pw_below_drewN | apply below_drew1) | exact HB.out))) : w.heap.size ≤ gb306)); clear HO_3; clear HB; have HO_3 := n0_; have HB := n1_; have BK306 := n2_; have GW306 := n3_; have GE306 := n4_; clear n0_ n1_ n2_ n3_ n4_; clear hb hbox hg; have hcz63_0 : w62.cell? ⟨gb306, 0, none⟩ = some (.int .i64 0) := (blk_cell BK306.out 0).trans rfl; have hcz63_1 : w62.cell? ⟨gb306, 1, none⟩ = some (.int .i64 0) := (blk_cell BK306.out 1).trans rfl; have hcz63_2 : w62.cell? ⟨gb306, 2, none⟩ = some (.int .i64 0) := (blk_cell BK306.out 2).trans rfl; have hcz63_3 : w62.cell? ⟨gb306, 3, none⟩ = some (.int .i64 0) := (blk_cell BK306.out 3).trans rfl; have hcz63_4 : w62.cell? ⟨gb306, 4, none⟩ = some (.int .i64 0) := (blk_cell BK306.out 4).trans rfl; have hfz63_0 := blk_frozen BK306.out 0; have hfz63_1 := blk_frozen BK306.out 1; have hfz63_2 := blk_frozen BK306.out 2; have hfz63_3 := blk_frozen BK306.out 3; have hfz63_4 := blk_frozen BK306.out 4) | (go_at_call 30; (with_reducible refine (impl_ItmOk.calls ((rd_T47 t302 x6_2).f0) ((rd_T47 t302 x6_2).f1) ((rd_T47 t302 x6_2).f2) ((rd_T47 t302 x6_2).f3) ((rd_T47 t302 x6_2).f4) false _ A12.out).mono ?_); rintro e w64 ⟨rfl, hb⟩; have n0_ := Aside0.mk (Kd.R_below (by (with_reducible repeat (first | apply Kd.R_alloc | apply Kd.R_drewN | apply Kd.R_drew)); exact (Kd.R_mono (Kd.R_far (p := ⟨gb306, 4, none⟩) (Kd.R_far (p := ⟨gb306, 3, none⟩) (Kd.R_far (p := ⟨gb306, 2, none⟩) (Kd.R_far (p := ⟨gb306, 1, none⟩) (Kd.R_far (p := ⟨gb306, 0, none⟩) (Kd.R_mono HO_3.out (fun k_ hk => (⟨hk, hk.2⟩ : _ ∧ k_ ≠ gb306))) (fun _ hk => hk.2) (.int .i64 ((rd_T47 t302 x6_2).f0))) (fun _ hk => hk.2) (.int .i64 ((rd_T47 t302 x6_2).f1))) (fun _ hk => hk.2) (.int .i64 ((rd_T47 t302 x6_2).f2))) (fun _ hk => hk.2) (.int .i64 ((rd_T47 t302 x6_2).f3))) (fun _ hk => hk.2) (.int .i64 ((rd_T47 t302 x6_2).f4))) (fun _ h_ => h_.1))) hb); have n1_ := Aside0.mk (blk_below (g := gb306) (o := .cells #[.int .i64 ((rd_T47 t302 x6_2).f0), .int .i64 ((rd_T47 t302 x6_2).f1), .int .i64 ((rd_T47 t302 x6_2).f2), .int .i64 ((rd_T47 t302 x6_2).f3), .int .i64 ((rd_T47 t302 x6_2).f4)] 47 (0, 0)) (by (with_reducible repeat (first | refine blk_drewN ?_ _ | refine blk_drew ?_ | refine blk_alloc ?_ _)); refine blk_put (cs := #[.int .i64 ((rd_T47 t302 x6_2).f0), .int .i64 ((rd_T47 t302 x6_2).f1), .int .i64 ((rd_T47 t302 x6_2).f2), .int .i64 ((rd_T47 t302 x6_2).f3), .int .i64 0]) ?_ 4 _ rfl; (with_reducible repeat (first | refine blk_drewN ?_ _ | refine blk_drew ?_ | refine blk_alloc ?_ _)); refine blk_put (cs := #[.int .i64 ((rd_T47 t302 x6_2).f0), .int .i64 ((rd_T47 t302 x6_2).f1), .int .i64 ((rd_T47 t302 x6_2).f2), .int .i64 0, .int .i64 0]) ?_ 3 _ rfl; (with_reducible repeat (first | refine blk_drewN ?_ _ | refine blk_drew ?_ | refine blk_alloc ?_ _)); refine blk_put (cs := #[.int .i64 ((rd_T47 t302 x6_2).f0), .int .i64 ((rd_T47 t302 x6_2).f1), .int .i64 0, .int .i64 0, .int .i64 0]) ?_ 2 _ rfl; (with_reducible repeat (first | refine blk_drewN ?_ _ | refine blk_drew ?_ | refine blk_alloc ?_ _)); refine blk_put (cs := #[.int .i64 ((rd_T47 t302 x6_2).f0), .int .i64 0, .int .i64 0, .int .i64 0, .int .i64 0]) ?_ 1 _ rfl; (with_reducible repeat (first | refine blk_drewN ?_ _ | refine blk_drew ?_ | refine blk_alloc ?_ _)); refine blk_put (cs := #[.int .i64 0, .int .i64 0, .int .i64 0, .int .i64 0, .int .i64 0]) ?_ 0 _ rfl; (with_reducible repeat (first | refine blk_drewN ?_ _ | refine blk_drew ?_ | refine blk_alloc ?_ _)); exact BK306.out) hb); have n2_ := Aside0.mk (below_step (by repeat (first | (with_reducible first | exact HB.out | apply below_alloc | apply pw_below_drewN | apply below_drew1 | refine below_set ?_ GE306.out) | exact HB.out)) hb); clear HO_3; clear BK306; clear HB; have HO_3 := n0_; have BK306 := n1_; have HB := n2_; clear n0_ n1_ n2_; (try clear hb); (try clear hb2); (try clear hk); (try clear hi); have hcz65_0 : w64.cell? ⟨gb306, 0, none⟩ = some (.int .i64 ((rd_T47 t302 x6_2).f0)) := (blk_cell BK306.out 0).trans rfl; have hcz65_1 : w64.cell? ⟨gb306, 1, none⟩ = some (.int .i64 ((rd_T47 t302 x6_2).f1)) := (blk_cell BK306.out 1).trans rfl; have hcz65_2 : w64.cell? ⟨gb306, 2, none⟩ = some (.int .i64 ((rd_T47 t302 x6_2).f2)) := (blk_cell BK306.out 2).trans rfl; have hcz65_3 : w64.cell? ⟨gb306, 3, none⟩ = some (.int .i64 ((rd_T47 t302 x6_2).f3)) := (blk_cell BK306.out 3).trans rfl; have hcz65_4 : w64.cell? ⟨gb306, 4, none⟩ = some (.int .i64 ((rd_T47 t302 x6_2).f4)) := (blk_cell BK306.out 4).trans rfl; have hfz65_0 := blk_frozen BK306.out 0; have hfz65_1 := blk_frozen BK306.out 1; have hfz65_2 := blk_frozen BK306.out 2; have hfz65_3 := blk_frozen BK306.out 3; have hfz65_4 := blk_frozen BK306.out 4))
                      go_roundg k2
                      case measure => have := HJ3.out; have := HK2.out; omega
                      case rel => exact ⟨(false), (x5_2), (wrap64 (x6_2 + 1)), (by first | rfl | (simp; done) | (simp [*]; done)), (by first | rfl | (simp; done) | (simp [*]; done)), (by first | rfl | (simp; done) | (simp [*]; done)), H', ⟨by have := HJ3.out; have := HK2.out; omega⟩, ⟨by (with_reducible repeat (first | apply Kd.R_alloc | apply Kd.R_drewN | apply Kd.R_drew)); exact Kd.R_mono HO_3.out (fun _ hk => trivial)⟩, ⟨by repeat (first | (with_reducible first | exact HB.out | apply below_alloc | apply pw_below_drewN | apply below_drew1 | refine below_set ?_ GE306.out) | exact HB.out)⟩⟩
                · replace c11 := Bool.eq_false_iff.mpr c11
                  subst c11
                  have H1 : (if ((rd_T47 t302 x6_2).f0) = 2 then (if ((rd_T47 t302 x6_2).f1) > x5_2 then (laws_FnLogOk.l0 k2 t302 false ((rd_T47 t302 x6_2).f1) (wrap64 (x6_2 + 1))) else (laws_FnLogOk.l0 k2 t302 false x5_2 (wrap64 (x6_2 + 1)))) else (laws_FnLogOk.l0 k2 t302 false x5_2 (wrap64 (x6_2 + 1)))) = some true := by rw [if_neg (show ¬ (false = true) by decide)] at H; exact H
                  clear H
                  have H := H1
                  clear H1
                  by_cases c66 : ((rd_T47 t302 x6_2).f0) = 2
                  · rw [if_pos c66] at H
                    have c66b0 : (((rd_T47 t302 x6_2).f0) == 2) = true := beq_iff_eq.mpr c66
                    have c66b1 : (((rd_T47 t302 x6_2).f0) != 2) = false := bne_eq_false_iff_eq.mpr c66
                    clear c66
                    by_cases c67 : ((rd_T47 t302 x6_2).f1) > x5_2
                    · rw [if_pos c67] at H
                      have c67b0 : decide (x5_2 < ((rd_T47 t302 x6_2).f1)) = true := decide_eq_true c67
                      clear c67
                      have H' := Aside0.mk H
                      clear H
                      obtain ⟨Ao68, co68, eo68⟩ := Kd.R_slice HO_3.out
                      subst eo68
                      have p305 : 0 ≤ (x6_2 : Int) := of_decide_eq_true (by first | (with_reducible assumption) | assumption)
                      have q305 : x6_2 < (t302.length : Int) := of_decide_eq_true (by first | (with_reducible assumption) | assumption)
                      obtain ⟨ad305, e305, hx305_0, hx305_1, hx305_2, hx305_3, hx305_4⟩ := at_T47 (Kd.R_reads' HO_3.out).2.2 x6_2 p305 q305
                      cases e305
                      replace p305 := eq_true p305
                      replace q305 := eq_true q305
                      go_wp2_with (first | ((with_reducible refine gate_dst (N := 7) rfl ?_); (try (refine gate_guard (by rfl) ?_; dsimp only)); refine box_event ?hg (N := 7) ?hd (cs := #[.int .i64 0, .int .i64 0, .int .i64 0, .int .i64 0, .int .i64 0]) (t := 47) ?hr ?_; (case hd => rfl); (case hg => rfl); (case hr => first | (go_simp; done) | (go_simp; rfl)); intro gb306 hg w69 hbox hb; have n0_ := Aside0.mk (Kd.R_below (Kd.R_elderB (by (with_reducible repeat (first | apply Kd.R_alloc | apply Kd.R_drewN | apply Kd.R_drew)); exact HO_3.out) gb306 (Nat.le_of_eq hg.symm)) hb); have n1_ := Aside0.mk (below_step (by repeat (first | (with_reducible first | exact HB.out | apply below_alloc | apply pw_below_drewN | apply below_drew1) | exact HB.out)) hb); have n2_ := Aside0.mk (hbox); have n3_ := Aside0.mk ((by rw [hg]; exact (below_size (by repeat (first | (with_reducible first | exact HB.out | apply below_alloc | apply pw_below_drewN | apply below_drew1) | exact HB.out))) : w.heap.size ≤ gb306)); have n4_ := Aside0.mk ((by rw [hg]; exact (below_size (by repeat (first | (with_reducible first | exact HB.out | apply below_alloc | apply pw_below_drewN | apply below_drew1) | exact HB.out))) : w.heap.size ≤ gb306)); clear HO_3; clear HB; have HO_3 := n0_; have HB := n1_; have BK306 := n2_; have GW306 := n3_; have GE306 := n4_; clear n0_ n1_ n2_ n3_ n4_; clear hb hbox hg; have hcz70_0 : w69.cell? ⟨gb306, 0, none⟩ = some (.int .i64 0) := (blk_cell BK306.out 0).trans rfl; have hcz70_1 : w69.cell? ⟨gb306, 1, none⟩ = some (.int .i64 0) := (blk_cell BK306.out 1).trans rfl; have hcz70_2 : w69.cell? ⟨gb306, 2, none⟩ = some (.int .i64 0) := (blk_cell BK306.out 2).trans rfl; have hcz70_3 : w69.cell? ⟨gb306, 3, none⟩ = some (.int .i64 0) := (blk_cell BK306.out 3).trans rfl; have hcz70_4 : w69.cell? ⟨gb306, 4, none⟩ = some (.int .i64 0) := (blk_cell BK306.out 4).trans rfl; have hfz70_0 := blk_frozen BK306.out 0; have hfz70_1 := blk_frozen BK306.out 1; have hfz70_2 := blk_frozen BK306.out 2; have hfz70_3 := blk_frozen BK306.out 3; have hfz70_4 := blk_frozen BK306.out 4))
                      go_roundg k2
                      case measure => have := HJ3.out; have := HK2.out; omega
                      case rel => exact ⟨(false), ((rd_T47 t302 x6_2).f1), (wrap64 (x6_2 + 1)), (by first | rfl | (simp; done) | (simp [*]; done)), (by first | rfl | (simp; done) | (simp [*]; done)), (by first | rfl | (simp; done) | (simp [*]; done)), H', ⟨by have := HJ3.out; have := HK2.out; omega⟩, ⟨by (with_reducible repeat (first | apply Kd.R_alloc | apply Kd.R_drewN | apply Kd.R_drew)); exact Kd.R_mono (Kd.R_far (p := ⟨gb306, 4, none⟩) (Kd.R_far (p := ⟨gb306, 3, none⟩) (Kd.R_far (p := ⟨gb306, 2, none⟩) (Kd.R_far (p := ⟨gb306, 1, none⟩) (Kd.R_far (p := ⟨gb306, 0, none⟩) (Kd.R_mono HO_3.out (fun k_ hk => (⟨hk, hk.2⟩ : _ ∧ k_ ≠ gb306))) (fun _ hk => hk.2) (.int .i64 ((rd_T47 t302 x6_2).f0))) (fun _ hk => hk.2) (.int .i64 ((rd_T47 t302 x6_2).f1))) (fun _ hk => hk.2) (.int .i64 ((rd_T47 t302 x6_2).f2))) (fun _ hk => hk.2) (.int .i64 ((rd_T47 t302 x6_2).f3))) (fun _ hk => hk.2) (.int .i64 ((rd_T47 t302 x6_2).f4))) (fun _ hk => trivial)⟩, ⟨by repeat (first | (with_reducible first | exact HB.out | apply below_alloc | apply pw_below_drewN | apply below_drew1 | refine below_set ?_ GE306.out) | exact HB.out)⟩⟩
                    · rw [if_neg c67] at H
                      have c67b0 : decide (x5_2 < ((rd_T47 t302 x6_2).f1)) = false := decide_eq_false c67
                      clear c67
                      have H' := Aside0.mk H
                      clear H
                      obtain ⟨Ao71, co71, eo71⟩ := Kd.R_slice HO_3.out
                      subst eo71
                      have p305 : 0 ≤ (x6_2 : Int) := of_decide_eq_true (by first | (with_reducible assumption) | assumption)
                      have q305 : x6_2 < (t302.length : Int) := of_decide_eq_true (by first | (with_reducible assumption) | assumption)
                      obtain ⟨ad305, e305, hx305_0, hx305_1, hx305_2, hx305_3, hx305_4⟩ := at_T47 (Kd.R_reads' HO_3.out).2.2 x6_2 p305 q305
                      cases e305
                      replace p305 := eq_true p305
                      replace q305 := eq_true q305
                      go_wp2_with (first | ((with_reducible refine gate_dst (N := 7) rfl ?_); (try (refine gate_guard (by rfl) ?_; dsimp only)); refine box_event ?hg (N := 7) ?hd (cs := #[.int .i64 0, .int .i64 0, .int .i64 0, .int .i64 0, .int .i64 0]) (t := 47) ?hr ?_; (case hd => rfl); (case hg => rfl); (case hr => first | (go_simp; done) | (go_simp; rfl)); intro gb306 hg w72 hbox hb; have n0_ := Aside0.mk (Kd.R_below (Kd.R_elderB (by (with_reducible repeat (first | apply Kd.R_alloc | apply Kd.R_drewN | apply Kd.R_drew)); exact HO_3.out) gb306 (Nat.le_of_eq hg.symm)) hb); have n1_ := Aside0.mk (below_step (by repeat (first | (with_reducible first | exact HB.out | apply below_alloc | apply pw_below_drewN | apply below_drew1) | exact HB.out)) hb); have n2_ := Aside0.mk (hbox); have n3_ := Aside0.mk ((by rw [hg]; exact (below_size (by repeat (first | (with_reducible first | exact HB.out | apply below_alloc | apply pw_below_drewN | apply below_drew1) | exact HB.out))) : w.heap.size ≤ gb306)); have n4_ := Aside0.mk ((by rw [hg]; exact (below_size (by repeat (first | (with_reducible first | exact HB.out | apply below_alloc | apply pw_below_drewN | apply below_drew1) | exact HB.out))) : w.heap.size ≤ gb306)); clear HO_3; clear HB; have HO_3 := n0_; have HB := n1_; have BK306 := n2_; have GW306 := n3_; have GE306 := n4_; clear n0_ n1_ n2_ n3_ n4_; clear hb hbox hg; have hcz73_0 : w72.cell? ⟨gb306, 0, none⟩ = some (.int .i64 0) := (blk_cell BK306.out 0).trans rfl; have hcz73_1 : w72.cell? ⟨gb306, 1, none⟩ = some (.int .i64 0) := (blk_cell BK306.out 1).trans rfl; have hcz73_2 : w72.cell? ⟨gb306, 2, none⟩ = some (.int .i64 0) := (blk_cell BK306.out 2).trans rfl; have hcz73_3 : w72.cell? ⟨gb306, 3, none⟩ = some (.int .i64 0) := (blk_cell BK306.out 3).trans rfl; have hcz73_4 : w72.cell? ⟨gb306, 4, none⟩ = some (.int .i64 0) := (blk_cell BK306.out 4).trans rfl; have hfz73_0 := blk_frozen BK306.out 0; have hfz73_1 := blk_frozen BK306.out 1; have hfz73_2 := blk_frozen BK306.out 2; have hfz73_3 := blk_frozen BK306.out 3; have hfz73_4 := blk_frozen BK306.out 4))
                      go_roundg k2
                      case measure => have := HJ3.out; have := HK2.out; omega
                      case rel => exact ⟨(false), (x5_2), (wrap64 (x6_2 + 1)), (by first | rfl | (simp; done) | (simp [*]; done)), (by first | rfl | (simp; done) | (simp [*]; done)), (by first | rfl | (simp; done) | (simp [*]; done)), H', ⟨by have := HJ3.out; have := HK2.out; omega⟩, ⟨by (with_reducible repeat (first | apply Kd.R_alloc | apply Kd.R_drewN | apply Kd.R_drew)); exact Kd.R_mono (Kd.R_far (p := ⟨gb306, 4, none⟩) (Kd.R_far (p := ⟨gb306, 3, none⟩) (Kd.R_far (p := ⟨gb306, 2, none⟩) (Kd.R_far (p := ⟨gb306, 1, none⟩) (Kd.R_far (p := ⟨gb306, 0, none⟩) (Kd.R_mono HO_3.out (fun k_ hk => (⟨hk, hk.2⟩ : _ ∧ k_ ≠ gb306))) (fun _ hk => hk.2) (.int .i64 ((rd_T47 t302 x6_2).f0))) (fun _ hk => hk.2) (.int .i64 ((rd_T47 t302 x6_2).f1))) (fun _ hk => hk.2) (.int .i64 ((rd_T47 t302 x6_2).f2))) (fun _ hk => hk.2) (.int .i64 ((rd_T47 t302 x6_2).f3))) (fun _ hk => hk.2) (.int .i64 ((rd_T47 t302 x6_2).f4))) (fun _ hk => trivial)⟩, ⟨by repeat (first | (with_reducible first | exact HB.out | apply below_alloc | apply pw_below_drewN | apply below_drew1 | refine below_set ?_ GE306.out) | exact HB.out)⟩⟩
                  · rw [if_neg c66] at H
                    have c66b0 : (((rd_T47 t302 x6_2).f0) == 2) = false := beq_eq_false_iff_ne.mpr c66
                    have c66b1 : (((rd_T47 t302 x6_2).f0) != 2) = true := bne_iff_ne.mpr c66
                    have H' := Aside0.mk H
                    clear H
                    obtain ⟨Ao74, co74, eo74⟩ := Kd.R_slice HO_3.out
                    subst eo74
                    have p305 : 0 ≤ (x6_2 : Int) := of_decide_eq_true (by first | (with_reducible assumption) | assumption)
                    have q305 : x6_2 < (t302.length : Int) := of_decide_eq_true (by first | (with_reducible assumption) | assumption)
                    obtain ⟨ad305, e305, hx305_0, hx305_1, hx305_2, hx305_3, hx305_4⟩ := at_T47 (Kd.R_reads' HO_3.out).2.2 x6_2 p305 q305
                    cases e305
                    replace p305 := eq_true p305
                    replace q305 := eq_true q305
                    go_wp2_with (first | ((with_reducible refine gate_dst (N := 7) rfl ?_); (try (refine gate_guard (by rfl) ?_; dsimp only)); refine box_event ?hg (N := 7) ?hd (cs := #[.int .i64 0, .int .i64 0, .int .i64 0, .int .i64 0, .int .i64 0]) (t := 47) ?hr ?_; (case hd => rfl); (case hg => rfl); (case hr => first | (go_simp; done) | (go_simp; rfl)); intro gb306 hg w75 hbox hb; have n0_ := Aside0.mk (Kd.R_below (Kd.R_elderB (by (with_reducible repeat (first | apply Kd.R_alloc | apply Kd.R_drewN | apply Kd.R_drew)); exact HO_3.out) gb306 (Nat.le_of_eq hg.symm)) hb); have n1_ := Aside0.mk (below_step (by repeat (first | (with_reducible first | exact HB.out | apply below_alloc | apply pw_below_drewN | apply below_drew1) | exact HB.out)) hb); have n2_ := Aside0.mk (hbox); have n3_ := Aside0.mk ((by rw [hg]; exact (below_size (by repeat (first | (with_reducible first | exact HB.out | apply below_alloc | apply pw_below_drewN | apply below_drew1) | exact HB.out))) : w.heap.size ≤ gb306)); have n4_ := Aside0.mk ((by rw [hg]; exact (below_size (by repeat (first | (with_reducible first | exact HB.out | apply below_alloc | apply pw_below_drewN | apply below_drew1) | exact HB.out))) : w.heap.size ≤ gb306)); clear HO_3; clear HB; have HO_3 := n0_; have HB := n1_; have BK306 := n2_; have GW306 := n3_; have GE306 := n4_; clear n0_ n1_ n2_ n3_ n4_; clear hb hbox hg; have hcz76_0 : w75.cell? ⟨gb306, 0, none⟩ = some (.int .i64 0) := (blk_cell BK306.out 0).trans rfl; have hcz76_1 : w75.cell? ⟨gb306, 1, none⟩ = some (.int .i64 0) := (blk_cell BK306.out 1).trans rfl; have hcz76_2 : w75.cell? ⟨gb306, 2, none⟩ = some (.int .i64 0) := (blk_cell BK306.out 2).trans rfl; have hcz76_3 : w75.cell? ⟨gb306, 3, none⟩ = some (.int .i64 0) := (blk_cell BK306.out 3).trans rfl; have hcz76_4 : w75.cell? ⟨gb306, 4, none⟩ = some (.int .i64 0) := (blk_cell BK306.out 4).trans rfl; have hfz76_0 := blk_frozen BK306.out 0; have hfz76_1 := blk_frozen BK306.out 1; have hfz76_2 := blk_frozen BK306.out 2; have hfz76_3 := blk_frozen BK306.out 3; have hfz76_4 := blk_frozen BK306.out 4))
                    go_roundg k2
                    case measure => have := HJ3.out; have := HK2.out; omega
                    case rel => exact ⟨(false), (x5_2), (wrap64 (x6_2 + 1)), (by first | rfl | (simp; done) | (simp [*]; done)), (by first | rfl | (simp; done) | (simp [*]; done)), (by first | rfl | (simp; done) | (simp [*]; done)), H', ⟨by have := HJ3.out; have := HK2.out; omega⟩, ⟨by (with_reducible repeat (first | apply Kd.R_alloc | apply Kd.R_drewN | apply Kd.R_drew)); exact Kd.R_mono (Kd.R_far (p := ⟨gb306, 4, none⟩) (Kd.R_far (p := ⟨gb306, 3, none⟩) (Kd.R_far (p := ⟨gb306, 2, none⟩) (Kd.R_far (p := ⟨gb306, 1, none⟩) (Kd.R_far (p := ⟨gb306, 0, none⟩) (Kd.R_mono HO_3.out (fun k_ hk => (⟨hk, hk.2⟩ : _ ∧ k_ ≠ gb306))) (fun _ hk => hk.2) (.int .i64 ((rd_T47 t302 x6_2).f0))) (fun _ hk => hk.2) (.int .i64 ((rd_T47 t302 x6_2).f1))) (fun _ hk => hk.2) (.int .i64 ((rd_T47 t302 x6_2).f2))) (fun _ hk => hk.2) (.int .i64 ((rd_T47 t302 x6_2).f3))) (fun _ hk => hk.2) (.int .i64 ((rd_T47 t302 x6_2).f4))) (fun _ hk => trivial)⟩, ⟨by repeat (first | (with_reducible first | exact HB.out | apply below_alloc | apply pw_below_drewN | apply below_drew1 | refine below_set ?_ GE306.out) | exact HB.out)⟩⟩
              · rw [if_neg c10] at H
                exact absurd H (by simp)
            · rw [if_neg c9] at H
              have c9b0 : decide (x6_2 < (t302.length : Int)) = false := decide_eq_false c9
              clear c9
              have HC77 := Aside0.mk H
              clear H
              obtain ⟨Ao78, co78, eo78⟩ := Kd.R_slice HO_3.out
              subst eo78
              go_upto_region 13 with (fail)
              go_cut [4] (fun v4 wc => ∃ (kq : Nat) (x4_76 : Bool), v4 = .bool x4_76 ∧ Aside0 (laws_FnLogOk.j2 kq t302 x4_76 = some true) ∧ Aside0 (kq ≤ k2) ∧ Aside0 (Kd.R k47 47 wc w.heap.size (fun _ => True) (.slice Ao78 t302.length co78) t302) ∧ Aside0 (Below w.heap.size w wc))
              case first =>
                have H := HC77.out
                clear HC77
                by_cases c79 : x4_2 = true
                · subst c79
                  have H1 : (if 0 ≤ (wrap64 ((t302.length : Int) - 1)) then (if (wrap64 ((t302.length : Int) - 1)) < (t302.length : Int) then (if ((rd_T47 t302 (wrap64 ((t302.length : Int) - 1))).f0) = 2 then (laws_FnLogOk.j2 k2 t302 (((rd_T47 t302 (wrap64 ((t302.length : Int) - 1))).f1) == 1000)) else (laws_FnLogOk.j2 k2 t302 false)) else (none)) else (none)) = some true := by rw [if_pos rfl] at H; exact H
                  clear H
                  have H := H1
                  clear H1
                  obtain ⟨ji80, hji80⟩ : ∃ j_ : Int, (wrap64 ((t302.length : Int) - 1)) = j_ := ⟨_, rfl⟩
                  replace H : (if 0 ≤ (ji80) then (if (ji80) < (t302.length : Int) then (if ((rd_T47 t302 (ji80)).f0) = 2 then (laws_FnLogOk.j2 k2 t302 (((rd_T47 t302 (ji80)).f1) == 1000)) else (laws_FnLogOk.j2 k2 t302 false)) else (none)) else (none)) = some true := by first | (rw [hji80] at H; exact H) | (simp only [hji80] at H ⊢; exact H)
                  have hji80w : (IntKind.i64.wrap ((t302.length : Int) - 1)) = ji80 := (i64_w _).trans hji80
                  by_cases c81 : 0 ≤ (ji80)
                  · rw [if_pos c81] at H
                    have c81b0 : decide (0 ≤ (ji80)) = true := decide_eq_true c81
                    clear c81
                    (first | rw [c81b0] | (simp only [i64_w, i32_w]; rw [c81b0]) | skip)
                    by_cases c82 : (ji80) < (t302.length : Int)
                    · rw [if_pos c82] at H
                      have c82b0 : decide ((ji80) < (t302.length : Int)) = true := decide_eq_true c82
                      clear c82
                      by_cases c83 : ((rd_T47 t302 (ji80)).f0) = 2
                      · rw [if_pos c83] at H
                        have c83b0 : (((rd_T47 t302 (ji80)).f0) == 2) = true := beq_iff_eq.mpr c83
                        have c83b1 : (((rd_T47 t302 (ji80)).f0) != 2) = false := bne_eq_false_iff_eq.mpr c83
                        clear c83
                        have H' := Aside0.mk H
                        clear H
                        have p308 : 0 ≤ ((ji80) : Int) := of_decide_eq_true (by first | (with_reducible assumption) | assumption)
                        have q308 : (ji80) < (t302.length : Int) := of_decide_eq_true (by first | (with_reducible assumption) | assumption)
                        obtain ⟨ad308, e308, hx308_0, hx308_1, hx308_2, hx308_3, hx308_4⟩ := at_T47 (Kd.R_reads' HO_3.out).2.2 (ji80) p308 q308
                        cases e308
                        replace p308 := eq_true p308
                        replace q308 := eq_true q308
                        have p309 : 0 ≤ ((ji80) : Int) := of_decide_eq_true (by first | (with_reducible assumption) | assumption)
                        have q309 : (ji80) < (t302.length : Int) := of_decide_eq_true (by first | (with_reducible assumption) | assumption)
                        obtain ⟨ad309, e309, hx309_0, hx309_1, hx309_2, hx309_3, hx309_4⟩ := at_T47 (Kd.R_reads' HO_3.out).2.2 (ji80) p309 q309
                        obtain rfl : ad308 = ad309 := (by injection e309)
                        replace p309 := eq_true p309
                        replace q309 := eq_true q309
                        go_wp2
                        go_meet
                        case rel => exact ⟨_, ((((rd_T47 t302 (ji80)).f1) == 1000)), (by first | rfl | (simp; done) | (simp only [← hji80] <;> (first | rfl | simp)) | (simp [*]; done)), H', ⟨by have := HJ3.out; have := HK2.out; first | omega | exact Nat.le_refl _⟩, ⟨by (with_reducible repeat (first | apply Kd.R_alloc | apply Kd.R_drewN | apply Kd.R_drew)); exact HO_3.out⟩, ⟨by repeat (first | (with_reducible first | exact HB.out | apply below_alloc | apply pw_below_drewN | apply below_drew1) | exact HB.out)⟩⟩
                      · rw [if_neg c83] at H
                        have c83b0 : (((rd_T47 t302 (ji80)).f0) == 2) = false := beq_eq_false_iff_ne.mpr c83
                        have c83b1 : (((rd_T47 t302 (ji80)).f0) != 2) = true := bne_iff_ne.mpr c83
                        have H' := Aside0.mk H
                        clear H
                        have p308 : 0 ≤ ((ji80) : Int) := of_decide_eq_true (by first | (with_reducible assumption) | assumption)
                        have q308 : (ji80) < (t302.length : Int) := of_decide_eq_true (by first | (with_reducible assumption) | assumption)
                        obtain ⟨ad308, e308, hx308_0, hx308_1, hx308_2, hx308_3, hx308_4⟩ := at_T47 (Kd.R_reads' HO_3.out).2.2 (ji80) p308 q308
                        cases e308
                        replace p308 := eq_true p308
                        replace q308 := eq_true q308
                        go_wp2
                        go_meet
                        case rel => exact ⟨_, (false), (by first | rfl | (simp; done) | (simp [*]; done)), H', ⟨by have := HJ3.out; have := HK2.out; first | omega | exact Nat.le_refl _⟩, ⟨by (with_reducible repeat (first | apply Kd.R_alloc | apply Kd.R_drewN | apply Kd.R_drew)); exact HO_3.out⟩, ⟨by repeat (first | (with_reducible first | exact HB.out | apply below_alloc | apply pw_below_drewN | apply below_drew1) | exact HB.out)⟩⟩
                    · rw [if_neg c82] at H
                      exact absurd H (by simp)
                  · rw [if_neg c81] at H
                    exact absurd H (by simp)
                · replace c79 := Bool.eq_false_iff.mpr c79
                  subst c79
                  have H1 : (laws_FnLogOk.j2 k2 t302 false) = some true := by rw [if_neg (show ¬ (false = true) by decide)] at H; exact H
                  clear H
                  have H := H1
                  clear H1
                  have H' := Aside0.mk H
                  clear H
                  go_wp2
                  go_meet
                  case rel => exact ⟨_, (false), (by first | rfl | (simp; done) | (simp [*]; done)), H', ⟨by have := HJ3.out; have := HK2.out; first | omega | exact Nat.le_refl _⟩, ⟨by (with_reducible repeat (first | apply Kd.R_alloc | apply Kd.R_drewN | apply Kd.R_drew)); exact HO_3.out⟩, ⟨by repeat (first | (with_reducible first | exact HB.out | apply below_alloc | apply pw_below_drewN | apply below_drew1) | exact HB.out)⟩⟩
              case rest =>
                clear HC77
                try clear c1
                try clear c2
                try clear c2b0
                try clear c2b1
                try clear p2
                try clear c3
                try clear p3
                try clear q3
                try clear hx3
                try clear c4
                try clear c5
                try clear c6
                try clear c6b0
                try clear c6b1
                try clear p6
                try clear c7
                try clear c8
                try clear c9
                try clear c9b0
                try clear c10
                try clear c10b0
                try clear c11
                try clear c13
                try clear c14
                try clear c14b0
                try clear c14b1
                try clear c15
                try clear c15b0
                try clear c15b1
                try clear c16
                try clear c16b0
                try clear c29
                try clear p30
                try clear q30
                try clear hx30
                try clear c32
                try clear c32b0
                try clear c32b1
                try clear c33
                try clear c33b0
                try clear c49
                try clear c49b0
                try clear c49b1
                try clear c50
                try clear c50b0
                try clear p64
                try clear c66
                try clear c66b0
                try clear c66b1
                try clear c67
                try clear c67b0
                try clear c79
                try clear c81
                try clear c81b0
                try clear c82
                try clear c82b0
                try clear c83
                try clear c83b0
                try clear c83b1
                try clear hcz19_0
                try clear hcz19_1
                try clear hcz19_2
                try clear hcz19_3
                try clear hcz19_4
                try clear hcz21_0
                try clear hcz21_1
                try clear hcz21_2
                try clear hcz21_3
                try clear hcz21_4
                try clear hcz24_0
                try clear hcz24_1
                try clear hcz24_2
                try clear hcz24_3
                try clear hcz24_4
                try clear hcz26_0
                try clear hcz26_1
                try clear hcz26_2
                try clear hcz26_3
                try clear hcz26_4
                try clear hcz29_0
                try clear hcz29_1
                try clear hcz29_2
                try clear hcz29_3
                try clear hcz29_4
                try clear hcz31_0
                try clear hcz31_1
                try clear hcz31_2
                try clear hcz31_3
                try clear hcz31_4
                try clear hcz36_0
                try clear hcz36_1
                try clear hcz36_2
                try clear hcz36_3
                try clear hcz36_4
                try clear hcz38_0
                try clear hcz38_1
                try clear hcz38_2
                try clear hcz38_3
                try clear hcz38_4
                try clear hcz41_0
                try clear hcz41_1
                try clear hcz41_2
                try clear hcz41_3
                try clear hcz41_4
                try clear hcz43_0
                try clear hcz43_1
                try clear hcz43_2
                try clear hcz43_3
                try clear hcz43_4
                try clear hcz46_0
                try clear hcz46_1
                try clear hcz46_2
                try clear hcz46_3
                try clear hcz46_4
                try clear hcz48_0
                try clear hcz48_1
                try clear hcz48_2
                try clear hcz48_3
                try clear hcz48_4
                try clear hcz53_0
                try clear hcz53_1
                try clear hcz53_2
                try clear hcz53_3
                try clear hcz53_4
                try clear hcz55_0
                try clear hcz55_1
                try clear hcz55_2
                try clear hcz55_3
                try clear hcz55_4
                try clear hcz58_0
                try clear hcz58_1
                try clear hcz58_2
                try clear hcz58_3
                try clear hcz58_4
                try clear hcz60_0
                try clear hcz60_1
                try clear hcz60_2
                try clear hcz60_3
                try clear hcz60_4
                try clear hcz63_0
                try clear hcz63_1
                try clear hcz63_2
                try clear hcz63_3
                try clear hcz63_4
                try clear hcz65_0
                try clear hcz65_1
                try clear hcz65_2
                try clear hcz65_3
                try clear hcz65_4
                try clear hcz70_0
                try clear hcz70_1
                try clear hcz70_2
                try clear hcz70_3
                try clear hcz70_4
                try clear hcz73_0
                try clear hcz73_1
                try clear hcz73_2
                try clear hcz73_3
                try clear hcz73_4
                try clear hcz76_0
                try clear hcz76_1
                try clear hcz76_2
                try clear hcz76_3
                try clear hcz76_4
                try clear hfz19_0
                try clear hfz19_1
                try clear hfz19_2
                try clear hfz19_3
                try clear hfz19_4
                try clear hfz21_0
                try clear hfz21_1
                try clear hfz21_2
                try clear hfz21_3
                try clear hfz21_4
                try clear hfz24_0
                try clear hfz24_1
                try clear hfz24_2
                try clear hfz24_3
                try clear hfz24_4
                try clear hfz26_0
                try clear hfz26_1
                try clear hfz26_2
                try clear hfz26_3
                try clear hfz26_4
                try clear hfz29_0
                try clear hfz29_1
                try clear hfz29_2
                try clear hfz29_3
                try clear hfz29_4
                try clear hfz31_0
                try clear hfz31_1
                try clear hfz31_2
                try clear hfz31_3
                try clear hfz31_4
                try clear hfz36_0
                try clear hfz36_1
                try clear hfz36_2
                try clear hfz36_3
                try clear hfz36_4
                try clear hfz38_0
                try clear hfz38_1
                try clear hfz38_2
                try clear hfz38_3
                try clear hfz38_4
                try clear hfz41_0
                try clear hfz41_1
                try clear hfz41_2
                try clear hfz41_3
                try clear hfz41_4
                try clear hfz43_0
                try clear hfz43_1
                try clear hfz43_2
                try clear hfz43_3
                try clear hfz43_4
                try clear hfz46_0
                try clear hfz46_1
                try clear hfz46_2
                try clear hfz46_3
                try clear hfz46_4
                try clear hfz48_0
                try clear hfz48_1
                try clear hfz48_2
                try clear hfz48_3
                try clear hfz48_4
                try clear hfz53_0
                try clear hfz53_1
                try clear hfz53_2
                try clear hfz53_3
                try clear hfz53_4
                try clear hfz55_0
                try clear hfz55_1
                try clear hfz55_2
                try clear hfz55_3
                try clear hfz55_4
                try clear hfz58_0
                try clear hfz58_1
                try clear hfz58_2
                try clear hfz58_3
                try clear hfz58_4
                try clear hfz60_0
                try clear hfz60_1
                try clear hfz60_2
                try clear hfz60_3
                try clear hfz60_4
                try clear hfz63_0
                try clear hfz63_1
                try clear hfz63_2
                try clear hfz63_3
                try clear hfz63_4
                try clear hfz65_0
                try clear hfz65_1
                try clear hfz65_2
                try clear hfz65_3
                try clear hfz65_4
                try clear hfz70_0
                try clear hfz70_1
                try clear hfz70_2
                try clear hfz70_3
                try clear hfz70_4
                try clear hfz73_0
                try clear hfz73_1
                try clear hfz73_2
                try clear hfz73_3
                try clear hfz73_4
                try clear hfz76_0
                try clear hfz76_1
                try clear hfz76_2
                try clear hfz76_3
                try clear hfz76_4
                try clear hx305_0
                try clear hx305_1
                try clear hx305_2
                try clear hx305_3
                try clear hx305_4
                try clear hx308_0
                try clear hx308_1
                try clear hx308_2
                try clear hx308_3
                try clear hx308_4
                try clear hx309_0
                try clear hx309_1
                try clear hx309_2
                try clear hx309_3
                try clear hx309_4
                try clear p2
                try clear p305
                try clear p308
                try clear p309
                try clear q305
                try clear q308
                try clear q309
                obtain ⟨kq, x4_76, rfl, HA, HJ76, HO_3, HB⟩ := hcut
                cases kq with
                | zero => exact absurd HA.out (by simp [laws_FnLogOk.j2])
                | succ kj76 =>
                  have H := HA.out
                  clear HA
                  simp only [laws_FnLogOk.j2] at H
                  replace H := Option.bind_eq_some_iff.mp H
                  obtain ⟨t310, A840, H⟩ := H
                  replace H : (if (t310 == x4_76) = true then ((impl_LogOk.f kj76 t302).bind fun t311 => ((spec_LogOk.f kj76 t302).bind fun t312 => (if (t311 == t312) = true then ((impl_LogOk.f kj76 (([(⟨2, 1000, 0, 0, 0⟩ : S47)] : List (S47)))).bind fun t316 => (some t316)) else (some false)))) else (some false)) = some true := H
                  have A84 := Aside0.mk A840
                  clear A840
                  by_cases c85 : (t310 == x4_76) = true
                  · rw [if_pos c85] at H
                    have c85b0 : (t310 == x4_76) = true := c85
                    (try (have c85b1 : decide (t310 = x4_76) = true := by simpa using c85))
                    (try (have c85b2 : (t310 == x4_76) = true := by simpa using c85))
                    clear c85
                    replace H := Option.bind_eq_some_iff.mp H
                    obtain ⟨t311, A860, H⟩ := H
                    replace H : ((spec_LogOk.f kj76 t302).bind fun t312 => (if (t311 == t312) = true then ((impl_LogOk.f kj76 (([(⟨2, 1000, 0, 0, 0⟩ : S47)] : List (S47)))).bind fun t316 => (some t316)) else (some false))) = some true := H
                    have A86 := Aside0.mk A860
                    clear A860
                    replace H := Option.bind_eq_some_iff.mp H
                    obtain ⟨t312, A870, H⟩ := H
                    replace H : (if (t311 == t312) = true then ((impl_LogOk.f kj76 (([(⟨2, 1000, 0, 0, 0⟩ : S47)] : List (S47)))).bind fun t316 => (some t316)) else (some false)) = some true := H
                    have A87 := Aside0.mk A870
                    clear A870
                    by_cases c88 : (t311 == t312) = true
                    · rw [if_pos c88] at H
                      have c88b0 : (t311 == t312) = true := c88
                      (try (have c88b1 : decide (t311 = t312) = true := by simpa using c88))
                      (try (have c88b2 : (t311 == t312) = true := by simpa using c88))
                      clear c88
                      obtain ⟨y313, hy313⟩ : ∃ y_ : List (S47), y_ = (([(⟨2, 1000, 0, 0, 0⟩ : S47)] : List (S47))) := ⟨_, rfl⟩
                      replace H : ((impl_LogOk.f kj76 y313).bind fun t316 => (some t316)) = some true := by first | (rw [hy313]; with_reducible exact H) | (have H2_ := (Option.bind_some _ _).symm.trans H; rw [hy313]; with_reducible exact H2_) | (have H2_ := (Option.bind_some _ _).symm.trans H; with_reducible exact H2_) | with_reducible exact H | (rw [hy313]; exact H) | exact H
                      have Ny313 := Aside0.mk hy313
                      clear hy313
                      replace H := Option.bind_eq_some_iff.mp H
                      obtain ⟨t316, A890, H⟩ := H
                      replace H : (some t316) = some true := H
                      have A89 := Aside0.mk A890
                      clear A890
                      have hrt_ := Aside0.mk (Option.some.inj H)
                      clear H
                      go_wp2_with (first | ((with_reducible refine gate_callee (f := 31) rfl ?_); refine goesL_ (some 85) rfl rfl Try.func31 (by kernel_rfl) rfl #[.slice Ao78 t302.length co78] rfl (by (try simp only [List.map_toArray, List.map_cons, List.map_nil]); first | done | rfl | (simp only [List.length_drop, List.length_take]; rfl)) ?_; (with_reducible refine (impl_LogOk.calls kj76 _ _ t302 t310 _ ?side1 ?side2 A84.out).mono ?_); (case side1 => repeat (first | exact (Kd.R_reads' HO_3.out).2.2 | (with_reducible refine Kd.C_alloc ?_ _) | (with_reducible refine Kd.C_drewN ?_ _) | (with_reducible refine Kd.C_drew ?_))); (case side2 => exact (Kd.R_reads' HO_3.out).2.1); rintro e w90 ⟨rfl, hb⟩; refine ⟨_, rfl, ?_⟩; have n0_ := Aside0.mk (Kd.R_below (by (with_reducible repeat (first | apply Kd.R_alloc | apply Kd.R_drewN | apply Kd.R_drew)); exact HO_3.out) hb); have n1_ := Aside0.mk (below_step (by repeat (first | (with_reducible first | exact HB.out | apply below_alloc | apply pw_below_drewN | apply below_drew1) | exact HB.out)) hb); clear HO_3; clear HB; have HO_3 := n0_; have HB := n1_; clear n0_ n1_; (try clear hb); (try clear hb2); (try clear hk); (try clear hi)) | (go_at_call 31; (with_reducible refine (impl_LogOk.calls kj76 _ _ t302 t311 _ ?side1 ?side2 A86.out).mono ?_); (case side1 => repeat (first | exact (Kd.R_reads' HO_3.out).2.2 | (with_reducible refine Kd.C_alloc ?_ _) | (with_reducible refine Kd.C_drewN ?_ _) | (with_reducible refine Kd.C_drew ?_))); (case side2 => exact (Kd.R_reads' HO_3.out).2.1); rintro e w91 ⟨rfl, hb⟩; have n0_ := Aside0.mk (Kd.R_below (by (with_reducible repeat (first | apply Kd.R_alloc | apply Kd.R_drewN | apply Kd.R_drew)); exact HO_3.out) hb); have n1_ := Aside0.mk (below_step (by repeat (first | (with_reducible first | exact HB.out | apply below_alloc | apply pw_below_drewN | apply below_drew1) | exact HB.out)) hb); clear HO_3; clear HB; have HO_3 := n0_; have HB := n1_; clear n0_ n1_; (try clear hb); (try clear hb2); (try clear hk); (try clear hi)) | (go_at_call 32; (with_reducible refine (spec_LogOk.calls kj76 _ _ t302 t312 _ ?side1 ?side2 A87.out).mono ?_); (case side1 => repeat (first | exact (Kd.R_reads' HO_3.out).2.2 | (with_reducible refine Kd.C_alloc ?_ _) | (with_reducible refine Kd.C_drewN ?_ _) | (with_reducible refine Kd.C_drew ?_))); (case side2 => exact (Kd.R_reads' HO_3.out).2.1); rintro e w92 ⟨rfl, hb⟩; have n0_ := Aside0.mk (Kd.R_below (by (with_reducible repeat (first | apply Kd.R_alloc | apply Kd.R_drewN | apply Kd.R_drew)); exact HO_3.out) hb); have n1_ := Aside0.mk (below_step (by repeat (first | (with_reducible first | exact HB.out | apply below_alloc | apply pw_below_drewN | apply below_drew1) | exact HB.out)) hb); clear HO_3; clear HB; have HO_3 := n0_; have HB := n1_; clear n0_ n1_; (try clear hb); (try clear hb2); (try clear hk); (try clear hi)) | ((with_reducible refine gate_dst (N := 97) rfl ?_); (try (refine gate_guard (by rfl) ?_; dsimp only)); refine Kd.R_lit k47 _ 47 ?hg (N := 97) ?hd (xs := ([(⟨2, 1000, 0, 0, 0⟩ : S47)] : List (S47))) (inner := [.int .i64 2, .int .i64 1000, .int .i64 0, .int .i64 0, .int .i64 0]) (ok := fun _ => True) (okp := fun _ => True) ?hr ?hp (fun _ hk => hk) trivial (Below.refl _ _) (Nat.le_refl _) (by simp) ?_; (case hd => rfl); (case hg => rfl); (case hr => first | (go_simp; done) | (go_simp; rfl)); (case hp => exact (Reps.c5 (show Kd.M k47 _ _ _ (⟨2, 1000, 0, 0, 0⟩ : S47) [.int .i64 2, .int .i64 1000, .int .i64 0, .int .i64 0, .int .i64 0] from (k47_mkM _ _ _ (⟨2, 1000, 0, 0, 0⟩ : S47) )) (Reps.none _ _))); intro v314 w93 ho94 hb hg_ hnew_; clear hg_ hnew_; (first | rw [← Ny313.out] at ho94 | (simp only [Int.reduceToNat] at ho94; rw [← Ny313.out] at ho94)); have n0_ := Aside0.mk (Kd.R_elder' (by (with_reducible repeat (first | apply Kd.R_alloc | apply Kd.R_drewN | apply Kd.R_drew)); exact HO_3.out) (Kd.R_base ho94) hb); have n1_ := Aside0.mk (Kd.R_lower (Kd.R_new' ho94 (Kd.R_lt (by (with_reducible repeat (first | apply Kd.R_alloc | apply Kd.R_drewN | apply Kd.R_drew)); exact HO_3.out))) (below_size (by repeat (first | (with_reducible first | exact HB.out | apply below_alloc | apply pw_below_drewN | apply below_drew1) | exact HB.out)))); have n2_ := Aside0.mk (below_step (by repeat (first | (with_reducible first | exact HB.out | apply below_alloc | apply pw_below_drewN | apply below_drew1) | exact HB.out)) hb); clear HO_3; clear HB; have HO_3 := n0_; have HO315 := n1_; have HB := n2_; clear n0_ n1_ n2_; clear hb ho94; obtain ⟨Ao95, co95, eo95⟩ := Kd.R_slice HO315.out; subst eo95) | (go_at_call 31; (with_reducible refine (impl_LogOk.calls kj76 _ _ y313 t316 _ ?side1 ?side2 A89.out).mono ?_); (case side1 => repeat (first | exact (Kd.R_reads' HO315.out).2.2 | (with_reducible refine Kd.C_alloc ?_ _) | (with_reducible refine Kd.C_drewN ?_ _) | (with_reducible refine Kd.C_drew ?_))); (case side2 => exact (Kd.R_reads' HO315.out).2.1); rintro e w96 ⟨rfl, hb⟩; have n0_ := Aside0.mk (Kd.R_below (by (with_reducible repeat (first | apply Kd.R_alloc | apply Kd.R_drewN | apply Kd.R_drew)); exact HO_3.out) hb); have n1_ := Aside0.mk (Kd.R_below (by (with_reducible repeat (first | apply Kd.R_alloc | apply Kd.R_drewN | apply Kd.R_drew)); exact HO315.out) hb); have n2_ := Aside0.mk (below_step (by repeat (first | (with_reducible first | exact HB.out | apply below_alloc | apply pw_below_drewN | apply below_drew1) | exact HB.out)) hb); clear HO_3; clear HO315; clear HB; have HO_3 := n0_; have HO315 := n1_; have HB := n2_; clear n0_ n1_ n2_; (try clear hb); (try clear hb2); (try clear hk); (try clear hi)))
                      go_ret
                      exact ⟨by first | rfl | (refine congrArg (fun b_ => Ending.returned (Value.bool b_)) ?_; first | exact hrt_.out | simpa using hrt_.out | (have hq_ := hrt_.out; simp at hq_ ⊢; omega)) | (simp [errW_none, errW_some] <;> rfl) | (simp [*, errW_none, errW_some] <;> rfl), by repeat (first | (with_reducible first | exact HB.out | apply below_alloc | apply pw_below_drewN | apply below_drew1) | exact HB.out)⟩
                    · rw [if_neg c88] at H
                      have c88b0 : (t311 == t312) = false := by simpa using c88
                      (try (have c88b1 : decide (t311 = t312) = false := by simpa using c88))
                      (try (have c88b2 : (t311 == t312) = false := by simpa using c88))
                      (try (have c88b3 : ¬ (t311 = t312) := by simpa using c88))
                      clear c88
                      exact absurd H (by simp)
                  · rw [if_neg c85] at H
                    have c85b0 : (t310 == x4_76) = false := by simpa using c85
                    (try (have c85b1 : decide (t310 = x4_76) = false := by simpa using c85))
                    (try (have c85b2 : (t310 == x4_76) = false := by simpa using c85))
                    (try (have c85b3 : ¬ (t310 = x4_76) := by simpa using c85))
                    clear c85
                    exact absurd H (by simp)

/-- THE ONE PURE STATEMENT of laws_FnLogOk: yours. -/
def laws_FnLogOk.Pure : Prop := ∀ (l0 : List Int), l0.length ≤ maxLen → l0.length * 1 ≤ 140737488351232 → (∀ x ∈ l0, (Lit.int .u8 x).wf = true) → ∃ k, laws_FnLogOk.f k l0 = some true
theorem laws_FnLogOk.walk (P : laws_FnLogOk.Pure) (a0 : Option Addr) (len0 cap0 : Nat) (z0 : List Int) (w : World) (w0 : (a0 = none ∧ len0 = 0 ∧ cap0 = 0 ∧ z0 = []) ∨ ∃ x, a0 = some x ∧ len0 ≤ cap0 ∧ cap0 ≤ maxLen ∧ z0.length = cap0 ∧ (∀ i, i < z0.length → w.cell? (x.add i) = some (.int .u8 (z0.getD i 0))) ∧ ∀ n ∈ z0, (Lit.int .u8 n).wf = true) (y0 : len0 * 1 ≤ 140737488351232) :
    Calls Try.prog 6 #[.slice a0 len0 cap0] w fun e w' => e = .returned (.bool true) ∧ Below w.heap.size w w' := by
  obtain ⟨l0, rfl, hr0, hm0, hw0, hc0⟩ := ReadsInt.ofRowC w0
  obtain ⟨k, h⟩ := P l0 hm0 y0 hw0
  refine (laws_FnLogOk.calls k _ _ l0 w (Kd.C_of_reads (d := (0 : Int)) (h1 := fun _ => rfl) hr0) hc0 h).mono ?_
  rintro e w' ⟨rfl, hd⟩
  exact ⟨rfl, hd⟩

end Go.Proofs.Ytofhaglklhmilaa.PFnLogOk
