/- Functions of the program as Lean functions, with their contracts, written by a program of mine over the kit's printer and in part by hand. No condition of its own. -/
import Derived.Test.YtofhaglklhmilaaQFnLogPunctualx0
import Derived.Test.YtofhaglklhmilaaQFnLogPunctualx4
import Derived.Test.YtofhaglklhmilaaQFnLogPunctualx5
namespace Go.Proofs.Ytofhaglklhmilaa.PFnLogPunctual
open Go.RowKit Go.Proofs.YtofhaglklhmilaaW.PrintWords Go.Proofs.YtofhaglklhmilaaW.PrintLast Go.Proofs.YtofhaglklhmilaaW.PrintMore
attribute [local go_sem] max2_int min2_int max_two min_two max_three min_three max_four min_four   -- for this text's walks alone
set_option linter.unusedVariables false
set_option linter.unusedSimpArgs false

/-! ### laws_FnLogPunctual: function 3 -/
def laws_FnLogPunctual.f (k : Nat) (l0 : List Int) : Option (Bool) := if (l0.length : Int) > 1048576 then (some true) else ((spec_DrawLogPunctual.f k l0).bind fun bt318 => ((impl_LogPunctual.f k bt318.1 bt318.2).bind fun t322 => ((spec_LogPunctual.f k bt318.1 bt318.2).bind fun t323 => (if (t322 != t323) = true then (some false) else (if (wrap64 ((bt318.1.length : Int) + 1)) = 0 then (none) else (if t322 = true then (if bt318.2 = 1000 then (if 0 ≤ ((l0.length : Int) % (wrap64 ((bt318.1.length : Int) + 1))) then (if ((l0.length : Int) % (wrap64 ((bt318.1.length : Int) + 1))) ≤ (bt318.1.length : Int) then ((impl_LogPunctual.f k (bt318.1.take (((l0.length : Int) % (wrap64 ((bt318.1.length : Int) + 1))) : Int).toNat) bt318.2).bind fun t328 => (if t328 = true then ((impl_LogPunctual.f k (([] : List (S47))) 0).bind fun t332 => (if t332 = true then ((laws_frOk.f).bind fun t333 => (some t333)) else (some false))) else (some false))) else (none)) else (none)) else ((impl_LogPunctual.f k bt318.1 (wrap64 (bt318.2 + 1))).bind fun t334 => (if t334 = true then (if 0 ≤ ((l0.length : Int) % (wrap64 ((bt318.1.length : Int) + 1))) then (if ((l0.length : Int) % (wrap64 ((bt318.1.length : Int) + 1))) ≤ (bt318.1.length : Int) then ((impl_LogPunctual.f k (bt318.1.take (((l0.length : Int) % (wrap64 ((bt318.1.length : Int) + 1))) : Int).toNat) bt318.2).bind fun t339 => (if t339 = true then ((impl_LogPunctual.f k (([] : List (S47))) 0).bind fun t343 => (if t343 = true then ((laws_frOk.f).bind fun t344 => (some t344)) else (some false))) else (some false))) else (none)) else (none)) else (some false)))) else ((impl_LogPunctual.f k (([] : List (S47))) 0).bind fun t348 => (if t348 = true then ((laws_frOk.f).bind fun t349 => (some t349)) else (some false)))))))))
theorem laws_FnLogPunctual.mono : ∀ a0 k, LeO (laws_FnLogPunctual.f k a0) (laws_FnLogPunctual.f (k + 1) a0) := by
  intro a0 k
  unfold laws_FnLogPunctual.f
  repeat' first
      | (with_reducible exact impl_LogPunctual.mono _ _ _)
      | (with_reducible exact spec_DrawLogPunctual.mono _ _)
      | (with_reducible exact spec_LogPunctual.mono _ _ _)
      | (with_reducible exact LeO.refl _)
      | (with_reducible exact LeO.none _)
      | (with_reducible refine LeO.ite ?_ ?_)
      | (with_reducible refine LeO.bind ?_ (fun _ => ?_))
      | exact impl_LogPunctual.mono _ _ _
      | exact spec_DrawLogPunctual.mono _ _
      | exact spec_LogPunctual.mono _ _ _
      | exact LeO.none _
      | refine LeO.ite ?_ ?_
      | refine LeO.bind ?_ (fun _ => ?_)
set_option maxHeartbeats 8000000 in
set_option maxRecDepth 100000 in
theorem laws_FnLogPunctual.calls (k : Nat) (A0 : Option Addr) (c0 : Nat) (l0 : List Int) (w : World) (hr0 : Kd.C (Kd.int .u8) w A0 l0.length l0) (hc0 : l0.length ≤ c0) (h : laws_FnLogPunctual.f k l0 = some true) :
    Calls Try.prog 3 #[.slice A0 l0.length c0] w fun e w' => e = .returned (.bool true) ∧ Below w.heap.size w w' := by
  have HR0 := Aside0.mk hr0
  have HC0 := Aside0.mk hc0
  clear hr0 hc0
  have HB := Aside0.mk (Below.refl w.heap.size w)
  have H : (if (l0.length : Int) > 1048576 then (some true) else ((spec_DrawLogPunctual.f k l0).bind fun bt318 => ((impl_LogPunctual.f k bt318.1 bt318.2).bind fun t322 => ((spec_LogPunctual.f k bt318.1 bt318.2).bind fun t323 => (if (t322 != t323) = true then (some false) else (if (wrap64 ((bt318.1.length : Int) + 1)) = 0 then (none) else (if t322 = true then (if bt318.2 = 1000 then (if 0 ≤ ((l0.length : Int) % (wrap64 ((bt318.1.length : Int) + 1))) then (if ((l0.length : Int) % (wrap64 ((bt318.1.length : Int) + 1))) ≤ (bt318.1.length : Int) then ((impl_LogPunctual.f k (bt318.1.take (((l0.length : Int) % (wrap64 ((bt318.1.length : Int) + 1))) : Int).toNat) bt318.2).bind fun t328 => (if t328 = true then ((impl_LogPunctual.f k (([] : List (S47))) 0).bind fun t332 => (if t332 = true then ((laws_frOk.f).bind fun t333 => (some t333)) else (some false))) else (some false))) else (none)) else (none)) else ((impl_LogPunctual.f k bt318.1 (wrap64 (bt318.2 + 1))).bind fun t334 => (if t334 = true then (if 0 ≤ ((l0.length : Int) % (wrap64 ((bt318.1.length : Int) + 1))) then (if ((l0.length : Int) % (wrap64 ((bt318.1.length : Int) + 1))) ≤ (bt318.1.length : Int) then ((impl_LogPunctual.f k (bt318.1.take (((l0.length : Int) % (wrap64 ((bt318.1.length : Int) + 1))) : Int).toNat) bt318.2).bind fun t339 => (if t339 = true then ((impl_LogPunctual.f k (([] : List (S47))) 0).bind fun t343 => (if t343 = true then ((laws_frOk.f).bind fun t344 => (some t344)) else (some false))) else (some false))) else (none)) else (none)) else (some false)))) else ((impl_LogPunctual.f k (([] : List (S47))) 0).bind fun t348 => (if t348 = true then ((laws_frOk.f).bind fun t349 => (some t349)) else (some false)))))))))) = some true := h
  clear h
  by_cases c2 : (l0.length : Int) > 1048576
  · rw [if_pos c2] at H
    have c2b0 : decide (1048576 < (l0.length : Int)) = true := decide_eq_true c2
    have c2b1 : decide (1048576 < l0.length) = true := decide_eq_true (by omega)
    clear c2
    clear H
    go_enter Try.func3, Try.ntmps3
    go_wp2
    go_ret
    exact ⟨by first | rfl | (refine congrArg (fun b_ => Ending.returned (Value.bool b_)) ?_; first | exact hrt_.out | simpa using hrt_.out | (have hq_ := hrt_.out; simp at hq_ ⊢; omega)) | (simp [errW_none, errW_some] <;> rfl) | (simp [*, errW_none, errW_some] <;> rfl), by repeat (first | (with_reducible first | exact HB.out | apply below_alloc | apply pw_below_drewN | apply below_drew1) | exact HB.out)⟩
  · rw [if_neg c2] at H
    have c2b0 : decide (1048576 < (l0.length : Int)) = false := decide_eq_false c2
    have c2b1 : decide (1048576 < l0.length) = false := decide_eq_false (by omega)
    clear c2
    replace H := Option.bind_eq_some_iff.mp H
    obtain ⟨⟨t318, t319⟩, A30, H⟩ := H
    replace H : ((impl_LogPunctual.f k t318 t319).bind fun t322 => ((spec_LogPunctual.f k t318 t319).bind fun t323 => (if (t322 != t323) = true then (some false) else (if (wrap64 ((t318.length : Int) + 1)) = 0 then (none) else (if t322 = true then (if t319 = 1000 then (if 0 ≤ ((l0.length : Int) % (wrap64 ((t318.length : Int) + 1))) then (if ((l0.length : Int) % (wrap64 ((t318.length : Int) + 1))) ≤ (t318.length : Int) then ((impl_LogPunctual.f k (t318.take (((l0.length : Int) % (wrap64 ((t318.length : Int) + 1))) : Int).toNat) t319).bind fun t328 => (if t328 = true then ((impl_LogPunctual.f k (([] : List (S47))) 0).bind fun t332 => (if t332 = true then ((laws_frOk.f).bind fun t333 => (some t333)) else (some false))) else (some false))) else (none)) else (none)) else ((impl_LogPunctual.f k t318 (wrap64 (t319 + 1))).bind fun t334 => (if t334 = true then (if 0 ≤ ((l0.length : Int) % (wrap64 ((t318.length : Int) + 1))) then (if ((l0.length : Int) % (wrap64 ((t318.length : Int) + 1))) ≤ (t318.length : Int) then ((impl_LogPunctual.f k (t318.take (((l0.length : Int) % (wrap64 ((t318.length : Int) + 1))) : Int).toNat) t319).bind fun t339 => (if t339 = true then ((impl_LogPunctual.f k (([] : List (S47))) 0).bind fun t343 => (if t343 = true then ((laws_frOk.f).bind fun t344 => (some t344)) else (some false))) else (some false))) else (none)) else (none)) else (some false)))) else ((impl_LogPunctual.f k (([] : List (S47))) 0).bind fun t348 => (if t348 = true then ((laws_frOk.f).bind fun t349 => (some t349)) else (some false)))))))) = some true := H
    have A3 := Aside0.mk A30
    clear A30
    replace H := Option.bind_eq_some_iff.mp H
    obtain ⟨t322, A40, H⟩ := H
    replace H : ((spec_LogPunctual.f k t318 t319).bind fun t323 => (if (t322 != t323) = true then (some false) else (if (wrap64 ((t318.length : Int) + 1)) = 0 then (none) else (if t322 = true then (if t319 = 1000 then (if 0 ≤ ((l0.length : Int) % (wrap64 ((t318.length : Int) + 1))) then (if ((l0.length : Int) % (wrap64 ((t318.length : Int) + 1))) ≤ (t318.length : Int) then ((impl_LogPunctual.f k (t318.take (((l0.length : Int) % (wrap64 ((t318.length : Int) + 1))) : Int).toNat) t319).bind fun t328 => (if t328 = true then ((impl_LogPunctual.f k (([] : List (S47))) 0).bind fun t332 => (if t332 = true then ((laws_frOk.f).bind fun t333 => (some t333)) else (some false))) else (some false))) else (none)) else (none)) else ((impl_LogPunctual.f k t318 (wrap64 (t319 + 1))).bind fun t334 => (if t334 = true then (if 0 ≤ ((l0.length : Int) % (wrap64 ((t318.length : Int) + 1))) then (if ((l0.length : Int) % (wrap64 ((t318.length : Int) + 1))) ≤ (t318.length : Int) then ((impl_LogPunctual.f k (t318.take (((l0.length : Int) % (wrap64 ((t318.length : Int) + 1))) : Int).toNat) t319).bind fun t339 => (if t339 = true then ((impl_LogPunctual.f k (([] : List (S47))) 0).bind fun t343 => (if t343 = true then ((laws_frOk.f).bind fun t344 => (some t344)) else (some false))) else (some false))) else (none)) else (none)) else (some false)))) else ((impl_LogPunctual.f k (([] : List (S47))) 0).bind fun t348 => (if t348 = true then ((laws_frOk.f).bind fun t349 => (some t349)) else (some false))))))) = some true := H
    have A4 := Aside0.mk A40
    clear A40
    replace H := Option.bind_eq_some_iff.mp H
    obtain ⟨t323, A50, H⟩ := H
    replace H : (if (t322 != t323) = true then (some false) else (if (wrap64 ((t318.length : Int) + 1)) = 0 then (none) else (if t322 = true then (if t319 = 1000 then (if 0 ≤ ((l0.length : Int) % (wrap64 ((t318.length : Int) + 1))) then (if ((l0.length : Int) % (wrap64 ((t318.length : Int) + 1))) ≤ (t318.length : Int) then ((impl_LogPunctual.f k (t318.take (((l0.length : Int) % (wrap64 ((t318.length : Int) + 1))) : Int).toNat) t319).bind fun t328 => (if t328 = true then ((impl_LogPunctual.f k (([] : List (S47))) 0).bind fun t332 => (if t332 = true then ((laws_frOk.f).bind fun t333 => (some t333)) else (some false))) else (some false))) else (none)) else (none)) else ((impl_LogPunctual.f k t318 (wrap64 (t319 + 1))).bind fun t334 => (if t334 = true then (if 0 ≤ ((l0.length : Int) % (wrap64 ((t318.length : Int) + 1))) then (if ((l0.length : Int) % (wrap64 ((t318.length : Int) + 1))) ≤ (t318.length : Int) then ((impl_LogPunctual.f k (t318.take (((l0.length : Int) % (wrap64 ((t318.length : Int) + 1))) : Int).toNat) t319).bind fun t339 => (if t339 = true then ((impl_LogPunctual.f k (([] : List (S47))) 0).bind fun t343 => (if t343 = true then ((laws_frOk.f).bind fun t344 => (some t344)) else (some false))) else (some false))) else (none)) else (none)) else (some false)))) else ((impl_LogPunctual.f k (([] : List (S47))) 0).bind fun t348 => (if t348 = true then ((laws_frOk.f).bind fun t349 => (some t349)) else (some false)))))) = some true := H
    have A5 := Aside0.mk A50
    clear A50
    by_cases c6 : (t322 != t323) = true
    · rw [if_pos c6] at H
      have c6b0 : (t322 != t323) = true := c6
      (try (have c6b1 : decide (t322 = t323) = false := by simpa using c6))
      (try (have c6b2 : (t322 == t323) = false := by simpa using c6))
      (try (have c6b3 : ¬ (t322 = t323) := by simpa using c6))
      clear c6
      exact absurd H (by simp)
    · rw [if_neg c6] at H
      have c6b0 : (t322 != t323) = false := by simpa using c6
      (try (have c6b1 : decide (t322 = t323) = true := by simpa using c6))
      (try (have c6b2 : (t322 == t323) = true := by simpa using c6))
      clear c6
      by_cases c7 : (wrap64 ((t318.length : Int) + 1)) = 0
      · rw [if_pos c7] at H
        exact absurd H (by simp)
      · rw [if_neg c7] at H
        have c7b0 : ((wrap64 ((t318.length : Int) + 1)) == 0) = false := beq_eq_false_iff_ne.mpr c7
        have c7b1 : ((wrap64 ((t318.length : Int) + 1)) != 0) = true := bne_iff_ne.mpr c7
        by_cases c8 : t322 = true
        · subst c8
          have H1 : (if t319 = 1000 then (if 0 ≤ ((l0.length : Int) % (wrap64 ((t318.length : Int) + 1))) then (if ((l0.length : Int) % (wrap64 ((t318.length : Int) + 1))) ≤ (t318.length : Int) then ((impl_LogPunctual.f k (t318.take (((l0.length : Int) % (wrap64 ((t318.length : Int) + 1))) : Int).toNat) t319).bind fun t328 => (if t328 = true then ((impl_LogPunctual.f k (([] : List (S47))) 0).bind fun t332 => (if t332 = true then ((laws_frOk.f).bind fun t333 => (some t333)) else (some false))) else (some false))) else (none)) else (none)) else ((impl_LogPunctual.f k t318 (wrap64 (t319 + 1))).bind fun t334 => (if t334 = true then (if 0 ≤ ((l0.length : Int) % (wrap64 ((t318.length : Int) + 1))) then (if ((l0.length : Int) % (wrap64 ((t318.length : Int) + 1))) ≤ (t318.length : Int) then ((impl_LogPunctual.f k (t318.take (((l0.length : Int) % (wrap64 ((t318.length : Int) + 1))) : Int).toNat) t319).bind fun t339 => (if t339 = true then ((impl_LogPunctual.f k (([] : List (S47))) 0).bind fun t343 => (if t343 = true then ((laws_frOk.f).bind fun t344 => (some t344)) else (some false))) else (some false))) else (none)) else (none)) else (some false)))) = some true := by rw [if_pos rfl] at H; exact H
          clear H
          have H := H1
          clear H1
          by_cases c9 : t319 = 1000
          · rw [if_pos c9] at H
            have c9b0 : (t319 == 1000) = true := beq_iff_eq.mpr c9
            have c9b1 : (t319 != 1000) = false := bne_eq_false_iff_eq.mpr c9
            clear c9
            obtain ⟨ji10, hji10⟩ : ∃ j_ : Int, ((l0.length : Int) % (wrap64 ((t318.length : Int) + 1))) = j_ := ⟨_, rfl⟩
            replace H : (if 0 ≤ (ji10) then (if (ji10) ≤ (t318.length : Int) then ((impl_LogPunctual.f k (t318.take ((ji10) : Int).toNat) t319).bind fun t328 => (if t328 = true then ((impl_LogPunctual.f k (([] : List (S47))) 0).bind fun t332 => (if t332 = true then ((laws_frOk.f).bind fun t333 => (some t333)) else (some false))) else (some false))) else (none)) else (none)) = some true := by first | (rw [hji10] at H; exact H) | (simp only [hji10] at H ⊢; exact H)
            (try rw [hji10] at A3)
            (try rw [hji10] at A4)
            (try rw [hji10] at A5)
            by_cases c11 : 0 ≤ (ji10)
            · rw [if_pos c11] at H
              have c11b0 := eq_true c11
              have c11b1 : decide (0 ≤ (ji10)) = true := decide_eq_true c11
              clear c11
              by_cases c12 : (ji10) ≤ (t318.length : Int)
              · rw [if_pos c12] at H
                have c12b0 := eq_true c12
                have c12b1 : decide ((ji10) ≤ (t318.length : Int)) = true := decide_eq_true c12
                clear c12
                obtain ⟨y324, hy324⟩ : ∃ y_ : List (S47), y_ = (t318.take ((ji10) : Int).toNat) := ⟨_, rfl⟩
                replace H : ((impl_LogPunctual.f k y324 t319).bind fun t328 => (if t328 = true then ((impl_LogPunctual.f k (([] : List (S47))) 0).bind fun t332 => (if t332 = true then ((laws_frOk.f).bind fun t333 => (some t333)) else (some false))) else (some false))) = some true := by first | (rw [hy324]; with_reducible exact H) | (have H2_ := (Option.bind_some _ _).symm.trans H; rw [hy324]; with_reducible exact H2_) | (have H2_ := (Option.bind_some _ _).symm.trans H; with_reducible exact H2_) | with_reducible exact H | (rw [hy324]; exact H) | exact H
                have Ny324 := Aside0.mk hy324
                clear hy324
                replace H := Option.bind_eq_some_iff.mp H
                obtain ⟨t328, A130, H⟩ := H
                replace H : (if t328 = true then ((impl_LogPunctual.f k (([] : List (S47))) 0).bind fun t332 => (if t332 = true then ((laws_frOk.f).bind fun t333 => (some t333)) else (some false))) else (some false)) = some true := H
                have A13 := Aside0.mk A130
                clear A130
                by_cases c14 : t328 = true
                · subst c14
                  have H1 : ((impl_LogPunctual.f k (([] : List (S47))) 0).bind fun t332 => (if t332 = true then ((laws_frOk.f).bind fun t333 => (some t333)) else (some false))) = some true := by rw [if_pos rfl] at H; exact H
                  clear H
                  have H := H1
                  clear H1
                  obtain ⟨y329, hy329⟩ : ∃ y_ : List (S47), y_ = (([] : List (S47))) := ⟨_, rfl⟩
                  replace H : ((impl_LogPunctual.f k y329 0).bind fun t332 => (if t332 = true then ((laws_frOk.f).bind fun t333 => (some t333)) else (some false))) = some true := by first | (rw [hy329]; with_reducible exact H) | (have H2_ := (Option.bind_some _ _).symm.trans H; rw [hy329]; with_reducible exact H2_) | (have H2_ := (Option.bind_some _ _).symm.trans H; with_reducible exact H2_) | with_reducible exact H | (rw [hy329]; exact H) | exact H
                  have Ny329 := Aside0.mk hy329
                  clear hy329
                  replace H := Option.bind_eq_some_iff.mp H
                  obtain ⟨t332, A150, H⟩ := H
                  replace H : (if t332 = true then ((laws_frOk.f).bind fun t333 => (some t333)) else (some false)) = some true := H
                  have A15 := Aside0.mk A150
                  clear A150
                  by_cases c16 : t332 = true
                  · subst c16
                    have H1 : ((laws_frOk.f).bind fun t333 => (some t333)) = some true := by rw [if_pos rfl] at H; exact H
                    clear H
                    have H := H1
                    clear H1
                    replace H := Option.bind_eq_some_iff.mp H
                    obtain ⟨t333, A170, H⟩ := H
                    replace H : (some t333) = some true := H
                    have A17 := Aside0.mk A170
                    clear A170
                    have hrt_ := Aside0.mk (Option.some.inj H)
                    clear H
                    go_enter Try.func3, Try.ntmps3
                    go_wp2_with (first | ((with_reducible refine gate_callee (f := 10) rfl ?_); refine goesL_ (some 12) rfl rfl Try.func10 (by kernel_rfl) rfl #[.slice A0 l0.length c0] rfl (by (try simp only [List.map_toArray, List.map_cons, List.map_nil]); first | done | rfl | (simp only [List.length_drop, List.length_take]; rfl)) ?_; (with_reducible refine (spec_DrawLogPunctual.calls k _ _ l0 t318 t319 _ ?side1 ?side2 A3.out).mono ?_); (case side1 => repeat (first | exact HR0.out | (with_reducible refine Kd.C_alloc ?_ _) | (with_reducible refine Kd.C_drewN ?_ _) | (with_reducible refine Kd.C_drew ?_))); (case side2 => exact HC0.out); rintro e w18 ⟨v320, rfl, ho0, hb⟩; refine ⟨_, rfl, ?_⟩; have n0_ := Aside0.mk (Kd.R_lower ho0 (below_size (by repeat (first | (with_reducible first | exact HB.out | apply below_alloc | apply pw_below_drewN | apply below_drew1) | exact HB.out)))); have n1_ := Aside0.mk (below_step (by repeat (first | (with_reducible first | exact HB.out | apply below_alloc | apply pw_below_drewN | apply below_drew1) | exact HB.out)) hb); clear HB; have HO321 := n0_; have HB := n1_; clear n0_ n1_; (try clear hb); (try clear hb2); (try clear hk); (try clear hi); (try clear ho0); obtain ⟨Ao19, co19, eo19⟩ := Kd.R_slice HO321.out; subst eo19) | ((with_reducible refine gate_callee (f := 11) rfl ?_); refine goesL_ (some 17) rfl rfl Try.func11 (by kernel_rfl) rfl #[.slice Ao19 t318.length co19, .int .i64 t319] rfl (by (try simp only [List.map_toArray, List.map_cons, List.map_nil]); first | done | rfl | (simp only [List.length_drop, List.length_take]; rfl)) ?_; (with_reducible refine (impl_LogPunctual.calls k _ _ t318 t319 true _ ?side1 ?side2 A4.out).mono ?_); (case side1 => repeat (first | exact (Kd.R_reads' HO321.out).2.2 | (with_reducible refine Kd.C_alloc ?_ _) | (with_reducible refine Kd.C_drewN ?_ _) | (with_reducible refine Kd.C_drew ?_))); (case side2 => exact (Kd.R_reads' HO321.out).2.1); rintro e w20 ⟨rfl, hb⟩; refine ⟨_, rfl, ?_⟩; have n0_ := Aside0.mk (Kd.R_below (by (with_reducible repeat (first | apply Kd.R_alloc | apply Kd.R_drewN | apply Kd.R_drew)); exact HO321.out) hb); have n1_ := Aside0.mk (below_step (by repeat (first | (with_reducible first | exact HB.out | apply below_alloc | apply pw_below_drewN | apply below_drew1) | exact HB.out)) hb); clear HO321; clear HB; have HO321 := n0_; have HB := n1_; clear n0_ n1_; (try clear hb); (try clear hb2); (try clear hk); (try clear hi)) | ((with_reducible refine gate_callee (f := 12) rfl ?_); refine goesL_ (some 21) rfl rfl Try.func12 (by kernel_rfl) rfl #[.slice Ao19 t318.length co19, .int .i64 t319] rfl (by (try simp only [List.map_toArray, List.map_cons, List.map_nil]); first | done | rfl | (simp only [List.length_drop, List.length_take]; rfl)) ?_; (with_reducible refine (spec_LogPunctual.calls k _ _ t318 t319 t323 _ ?side1 ?side2 A5.out).mono ?_); (case side1 => repeat (first | exact (Kd.R_reads' HO321.out).2.2 | (with_reducible refine Kd.C_alloc ?_ _) | (with_reducible refine Kd.C_drewN ?_ _) | (with_reducible refine Kd.C_drew ?_))); (case side2 => exact (Kd.R_reads' HO321.out).2.1); rintro e w' ⟨rfl, ⟨nd, rfl⟩⟩; refine ⟨_, rfl, ?_⟩; have q21 : ((ji10) : Int) ≤ ((t318.length : Int) : Int) := of_decide_eq_true (by first | (with_reducible assumption) | assumption); obtain ⟨i021, hi021, _, hsz21, _⟩ := info_parts info47; have hroom21 : t318.length ≤ co19 := (Kd.R_reads' HO321.out).2.1; have hC21 : Kd.C k47 _ Ao19 t318.length t318 := (Kd.R_reads' HO321.out).2.2; have hcut21 := cut_to (P := Try.prog) 23 47 .i64 Try.underlying23 hi021 Ao19 t318.length co19 (ji10) (of_decide_eq_true (by first | (with_reducible assumption) | assumption)) q21 hroom21; have hr21 := Kd.C_take (m := ((ji10) : Int).toNat) hC21 (by omega); have hy21 : y324.length = ((ji10) : Int).toNat := (by rw [Ny324.out, List.length_take]; omega); rw [← Ny324.out] at hr21; rw [← hy21] at hcut21; have HR327 := Aside0.mk hr21; have HC327 := Aside0.mk (show y324.length ≤ co19 from by omega); clear hr21 hC21 hroom21 hi021 hsz21; have KY21 := Aside0.mk hy21; clear hy21; have KL21 := Aside0.mk (show ((ji10) : Int).toNat ≤ t318.length from by omega); replace q21 := eq_true q21) | (go_at_call 11; (with_reducible refine (impl_LogPunctual.calls k _ _ y324 t319 true _ ?side1 ?side2 A13.out).mono ?_); (case side1 => repeat (first | exact (by repeat (first | (with_reducible exact HR327.out) | (with_reducible refine Kd.C_alloc ?_ _) | (with_reducible refine Kd.C_drewN ?_ _) | (with_reducible refine Kd.C_drew ?_) | exact HR327.out)) | (with_reducible refine Kd.C_alloc ?_ _) | (with_reducible refine Kd.C_drewN ?_ _) | (with_reducible refine Kd.C_drew ?_))); (case side2 => exact HC327.out); rintro e w22 ⟨rfl, hb⟩; have n0_ := Aside0.mk (Kd.R_below (by (with_reducible repeat (first | apply Kd.R_alloc | apply Kd.R_drewN | apply Kd.R_drew)); exact HO321.out) hb); have n1_ := Aside0.mk (Kd.C_below (by repeat (first | (with_reducible exact HR327.out) | (with_reducible refine Kd.C_alloc ?_ _) | (with_reducible refine Kd.C_drewN ?_ _) | (with_reducible refine Kd.C_drew ?_) | exact HR327.out)) hb); have n2_ := Aside0.mk (below_step (by repeat (first | (with_reducible first | exact HB.out | apply below_alloc | apply pw_below_drewN | apply below_drew1) | exact HB.out)) hb); clear HO321; clear HR327; clear HB; have HO321 := n0_; have HR327 := n1_; have HB := n2_; clear n0_ n1_ n2_; (try clear hb); (try clear hb2); (try clear hk); (try clear hi)) | ((with_reducible refine gate_dst (N := 49) rfl ?_); (try (refine gate_guard (by rfl) ?_; dsimp only)); refine Kd.R_lit k47 _ 47 ?hg (N := 49) ?hd (xs := ([] : List (S47))) (inner := []) (ok := fun _ => True) (okp := fun _ => True) ?hr ?hp (fun _ hk => hk) trivial (Below.refl _ _) (Nat.le_refl _) (by simp) ?_; (case hd => rfl); (case hg => rfl); (case hr => first | (go_simp; done) | (go_simp; rfl)); (case hp => exact (Reps.none _ _)); intro v330 w23 ho24 hb hg_ hnew_; clear hg_ hnew_; (first | rw [← Ny329.out] at ho24 | (simp only [Int.reduceToNat] at ho24; rw [← Ny329.out] at ho24)); have n0_ := Aside0.mk (Kd.R_elder' (by (with_reducible repeat (first | apply Kd.R_alloc | apply Kd.R_drewN | apply Kd.R_drew)); exact HO321.out) (Kd.R_base ho24) hb); have n1_ := Aside0.mk (Kd.R_lower (Kd.R_new' ho24 (Kd.R_lt (by (with_reducible repeat (first | apply Kd.R_alloc | apply Kd.R_drewN | apply Kd.R_drew)); exact HO321.out))) (below_size (by repeat (first | (with_reducible first | exact HB.out | apply below_alloc | apply pw_below_drewN | apply below_drew1) | exact HB.out)))); have n2_ := Aside0.mk (Kd.C_below (by repeat (first | (with_reducible exact HR327.out) | (with_reducible refine Kd.C_alloc ?_ _) | (with_reducible refine Kd.C_drewN ?_ _) | (with_reducible refine Kd.C_drew ?_) | exact HR327.out)) hb); have n3_ := Aside0.mk (below_step (by repeat (first | (with_reducible first | exact HB.out | apply below_alloc | apply pw_below_drewN | apply below_drew1) | exact HB.out)) hb); clear HO321; clear HR327; clear HB; have HO321 := n0_; have HO331 := n1_; have HR327 := n2_; have HB := n3_; clear n0_ n1_ n2_ n3_; clear hb ho24; obtain ⟨Ao25, co25, eo25⟩ := Kd.R_slice HO331.out; subst eo25) | (go_at_call 11; (with_reducible refine (impl_LogPunctual.calls k _ _ y329 0 true _ ?side1 ?side2 A15.out).mono ?_); (case side1 => repeat (first | exact (Kd.R_reads' HO331.out).2.2 | (with_reducible refine Kd.C_alloc ?_ _) | (with_reducible refine Kd.C_drewN ?_ _) | (with_reducible refine Kd.C_drew ?_))); (case side2 => exact (Kd.R_reads' HO331.out).2.1); rintro e w26 ⟨rfl, hb⟩; have n0_ := Aside0.mk (Kd.R_below (by (with_reducible repeat (first | apply Kd.R_alloc | apply Kd.R_drewN | apply Kd.R_drew)); exact HO321.out) hb); have n1_ := Aside0.mk (Kd.R_below (by (with_reducible repeat (first | apply Kd.R_alloc | apply Kd.R_drewN | apply Kd.R_drew)); exact HO331.out) hb); have n2_ := Aside0.mk (Kd.C_below (by repeat (first | (with_reducible exact HR327.out) | (with_reducible refine Kd.C_alloc ?_ _) | (with_reducible refine Kd.C_drewN ?_ _) | (with_reducible refine Kd.C_drew ?_) | exact HR327.out)) hb); have n3_ := Aside0.mk (below_step (by repeat (first | (with_reducible first | exact HB.out | apply below_alloc | apply pw_below_drewN | apply below_drew1) | exact HB.out)) hb); clear HO321; clear HO331; clear HR327; clear HB; have HO321 := n0_; have HO331 := n1_; have HR327 := n2_; have HB := n3_; clear n0_ n1_ n2_ n3_; (try clear hb); (try clear hb2); (try clear hk); (try clear hi)) | (go_at_call 13; (with_reducible refine (laws_frOk.calls  t333 _ A17.out).mono ?_); rintro e w27 ⟨rfl, hb⟩; have n0_ := Aside0.mk (Kd.R_below (by (with_reducible repeat (first | apply Kd.R_alloc | apply Kd.R_drewN | apply Kd.R_drew)); exact HO321.out) hb); have n1_ := Aside0.mk (Kd.R_below (by (with_reducible repeat (first | apply Kd.R_alloc | apply Kd.R_drewN | apply Kd.R_drew)); exact HO331.out) hb); have n2_ := Aside0.mk (Kd.C_below (by repeat (first | (with_reducible exact HR327.out) | (with_reducible refine Kd.C_alloc ?_ _) | (with_reducible refine Kd.C_drewN ?_ _) | (with_reducible refine Kd.C_drew ?_) | exact HR327.out)) hb); have n3_ := Aside0.mk (below_step (by repeat (first | (with_reducible first | exact HB.out | apply below_alloc | apply pw_below_drewN | apply below_drew1) | exact HB.out)) hb); clear HO321; clear HO331; clear HR327; clear HB; have HO321 := n0_; have HO331 := n1_; have HR327 := n2_; have HB := n3_; clear n0_ n1_ n2_ n3_; (try clear hb); (try clear hb2); (try clear hk); (try clear hi)))
                    go_ret
                    exact ⟨by first | rfl | (refine congrArg (fun b_ => Ending.returned (Value.bool b_)) ?_; first | exact hrt_.out | simpa using hrt_.out | (have hq_ := hrt_.out; simp at hq_ ⊢; omega)) | (simp [errW_none, errW_some] <;> rfl) | (simp only [← hji10]; first | rfl | (simp [errW_none, errW_some] <;> rfl)) | (simp [*, errW_none, errW_some] <;> rfl), by repeat (first | (with_reducible first | exact HB.out | apply below_alloc | apply pw_below_drewN | apply below_drew1) | exact HB.out)⟩
                  · replace c16 := Bool.eq_false_iff.mpr c16
                    subst c16
                    have H1 : (some false) = some true := by rw [if_neg (show ¬ (false = true) by decide)] at H; exact H
                    clear H
                    have H := H1
                    clear H1
                    exact absurd H (by simp)
                · replace c14 := Bool.eq_false_iff.mpr c14
                  subst c14
                  have H1 : (some false) = some true := by rw [if_neg (show ¬ (false = true) by decide)] at H; exact H
                  clear H
                  have H := H1
                  clear H1
                  exact absurd H (by simp)
              · rw [if_neg c12] at H
                exact absurd H (by simp)
            · rw [if_neg c11] at H
              exact absurd H (by simp)
          · rw [if_neg c9] at H
            have c9b0 : (t319 == 1000) = false := beq_eq_false_iff_ne.mpr c9
            have c9b1 : (t319 != 1000) = true := bne_iff_ne.mpr c9
            replace H := Option.bind_eq_some_iff.mp H
            obtain ⟨t334, A280, H⟩ := H
            replace H : (if t334 = true then (if 0 ≤ ((l0.length : Int) % (wrap64 ((t318.length : Int) + 1))) then (if ((l0.length : Int) % (wrap64 ((t318.length : Int) + 1))) ≤ (t318.length : Int) then ((impl_LogPunctual.f k (t318.take (((l0.length : Int) % (wrap64 ((t318.length : Int) + 1))) : Int).toNat) t319).bind fun t339 => (if t339 = true then ((impl_LogPunctual.f k (([] : List (S47))) 0).bind fun t343 => (if t343 = true then ((laws_frOk.f).bind fun t344 => (some t344)) else (some false))) else (some false))) else (none)) else (none)) else (some false)) = some true := H
            have A28 := Aside0.mk A280
            clear A280
            by_cases c29 : t334 = true
            · subst c29
              have H1 : (if 0 ≤ ((l0.length : Int) % (wrap64 ((t318.length : Int) + 1))) then (if ((l0.length : Int) % (wrap64 ((t318.length : Int) + 1))) ≤ (t318.length : Int) then ((impl_LogPunctual.f k (t318.take (((l0.length : Int) % (wrap64 ((t318.length : Int) + 1))) : Int).toNat) t319).bind fun t339 => (if t339 = true then ((impl_LogPunctual.f k (([] : List (S47))) 0).bind fun t343 => (if t343 = true then ((laws_frOk.f).bind fun t344 => (some t344)) else (some false))) else (some false))) else (none)) else (none)) = some true := by rw [if_pos rfl] at H; exact H
              clear H
              have H := H1
              clear H1
              obtain ⟨ji30, hji30⟩ : ∃ j_ : Int, ((l0.length : Int) % (wrap64 ((t318.length : Int) + 1))) = j_ := ⟨_, rfl⟩
              replace H : (if 0 ≤ (ji30) then (if (ji30) ≤ (t318.length : Int) then ((impl_LogPunctual.f k (t318.take ((ji30) : Int).toNat) t319).bind fun t339 => (if t339 = true then ((impl_LogPunctual.f k (([] : List (S47))) 0).bind fun t343 => (if t343 = true then ((laws_frOk.f).bind fun t344 => (some t344)) else (some false))) else (some false))) else (none)) else (none)) = some true := by first | (rw [hji30] at H; exact H) | (simp only [hji30] at H ⊢; exact H)
              (try rw [hji30] at A3)
              (try rw [hji30] at A4)
              (try rw [hji30] at A5)
              (try rw [hji30] at A28)
              by_cases c31 : 0 ≤ (ji30)
              · rw [if_pos c31] at H
                have c31b0 := eq_true c31
                have c31b1 : decide (0 ≤ (ji30)) = true := decide_eq_true c31
                clear c31
                by_cases c32 : (ji30) ≤ (t318.length : Int)
                · rw [if_pos c32] at H
                  have c32b0 := eq_true c32
                  have c32b1 : decide ((ji30) ≤ (t318.length : Int)) = true := decide_eq_true c32
                  clear c32
                  obtain ⟨y335, hy335⟩ : ∃ y_ : List (S47), y_ = (t318.take ((ji30) : Int).toNat) := ⟨_, rfl⟩
                  replace H : ((impl_LogPunctual.f k y335 t319).bind fun t339 => (if t339 = true then ((impl_LogPunctual.f k (([] : List (S47))) 0).bind fun t343 => (if t343 = true then ((laws_frOk.f).bind fun t344 => (some t344)) else (some false))) else (some false))) = some true := by first | (rw [hy335]; with_reducible exact H) | (have H2_ := (Option.bind_some _ _).symm.trans H; rw [hy335]; with_reducible exact H2_) | (have H2_ := (Option.bind_some _ _).symm.trans H; with_reducible exact H2_) | with_reducible exact H | (rw [hy335]; exact H) | exact H
                  have Ny335 := Aside0.mk hy335
                  clear hy335
                  replace H := Option.bind_eq_some_iff.mp H
                  obtain ⟨t339, A330, H⟩ := H
                  replace H : (if t339 = true then ((impl_LogPunctual.f k (([] : List (S47))) 0).bind fun t343 => (if t343 = true then ((laws_frOk.f).bind fun t344 => (some t344)) else (some false))) else (some false)) = some true := H
                  have A33 := Aside0.mk A330
                  clear A330
                  by_cases c34 : t339 = true
                  · subst c34
                    have H1 : ((impl_LogPunctual.f k (([] : List (S47))) 0).bind fun t343 => (if t343 = true then ((laws_frOk.f).bind fun t344 => (some t344)) else (some false))) = some true := by rw [if_pos rfl] at H; exact H
                    clear H
                    have H := H1
                    clear H1
                    obtain ⟨y340, hy340⟩ : ∃ y_ : List (S47), y_ = (([] : List (S47))) := ⟨_, rfl⟩
                    replace H : ((impl_LogPunctual.f k y340 0).bind fun t343 => (if t343 = true then ((laws_frOk.f).bind fun t344 => (some t344)) else (some false))) = some true := by first | (rw [hy340]; with_reducible exact H) | (have H2_ := (Option.bind_some _ _).symm.trans H; rw [hy340]; with_reducible exact H2_) | (have H2_ := (Option.bind_some _ _).symm.trans H; with_reducible exact H2_) | with_reducible exact H | (rw [hy340]; exact H) | exact H
                    have Ny340 := Aside0.mk hy340
                    clear hy340
                    replace H := Option.bind_eq_some_iff.mp H
                    obtain ⟨t343, A350, H⟩ := H
                    replace H : (if t343 = true then ((laws_frOk.f).bind fun t344 => (some t344)) else (some false)) = some true := H
                    have A35 := Aside0.mk A350
                    clear A350
                    by_cases c36 : t343 = true
                    · subst c36
                      have H1 : ((laws_frOk.f).bind fun t344 => (some t344)) = some true := by rw [if_pos rfl] at H; exact H
                      clear H
                      have H := H1
                      clear H1
                      replace H := Option.bind_eq_some_iff.mp H
                      obtain ⟨t344, A370, H⟩ := H
                      replace H : (some t344) = some true := H
                      have A37 := Aside0.mk A370
                      clear A370
                      have hrt_ := Aside0.mk (Option.some.inj H)
                      clear H
                      go_enter Try.func3, Try.ntmps3
                      go_wp2_with (first | ((with_reducible refine gate_callee (f := 10) rfl ?_); refine goesL_ (some 12) rfl rfl Try.func10 (by kernel_rfl) rfl #[.slice A0 l0.length c0] rfl (by (try simp only [List.map_toArray, List.map_cons, List.map_nil]); first | done | rfl | (simp only [List.length_drop, List.length_take]; rfl)) ?_; (with_reducible refine (spec_DrawLogPunctual.calls k _ _ l0 t318 t319 _ ?side1 ?side2 A3.out).mono ?_); (case side1 => repeat (first | exact HR0.out | (with_reducible refine Kd.C_alloc ?_ _) | (with_reducible refine Kd.C_drewN ?_ _) | (with_reducible refine Kd.C_drew ?_))); (case side2 => exact HC0.out); rintro e w38 ⟨v320, rfl, ho0, hb⟩; refine ⟨_, rfl, ?_⟩; have n0_ := Aside0.mk (Kd.R_lower ho0 (below_size (by repeat (first | (with_reducible first | exact HB.out | apply below_alloc | apply pw_below_drewN | apply below_drew1) | exact HB.out)))); have n1_ := Aside0.mk (below_step (by repeat (first | (with_reducible first | exact HB.out | apply below_alloc | apply pw_below_drewN | apply below_drew1) | exact HB.out)) hb); clear HB; have HO321 := n0_; have HB := n1_; clear n0_ n1_; (try clear hb); (try clear hb2); (try clear hk); (try clear hi); (try clear ho0); obtain ⟨Ao39, co39, eo39⟩ := Kd.R_slice HO321.out; subst eo39) | ((with_reducible refine gate_callee (f := 11) rfl ?_); refine goesL_ (some 17) rfl rfl Try.func11 (by kernel_rfl) rfl #[.slice Ao39 t318.length co39, .int .i64 t319] rfl (by (try simp only [List.map_toArray, List.map_cons, List.map_nil]); first | done | rfl | (simp only [List.length_drop, List.length_take]; rfl)) ?_; (with_reducible refine (impl_LogPunctual.calls k _ _ t318 t319 true _ ?side1 ?side2 A4.out).mono ?_); (case side1 => repeat (first | exact (Kd.R_reads' HO321.out).2.2 | (with_reducible refine Kd.C_alloc ?_ _) | (with_reducible refine Kd.C_drewN ?_ _) | (with_reducible refine Kd.C_drew ?_))); (case side2 => exact (Kd.R_reads' HO321.out).2.1); rintro e w40 ⟨rfl, hb⟩; refine ⟨_, rfl, ?_⟩; have n0_ := Aside0.mk (Kd.R_below (by (with_reducible repeat (first | apply Kd.R_alloc | apply Kd.R_drewN | apply Kd.R_drew)); exact HO321.out) hb); have n1_ := Aside0.mk (below_step (by repeat (first | (with_reducible first | exact HB.out | apply below_alloc | apply pw_below_drewN | apply below_drew1) | exact HB.out)) hb); clear HO321; clear HB; have HO321 := n0_; have HB := n1_; clear n0_ n1_; (try clear hb); (try clear hb2); (try clear hk); (try clear hi)) | ((with_reducible refine gate_callee (f := 12) rfl ?_); refine goesL_ (some 21) rfl rfl Try.func12 (by kernel_rfl) rfl #[.slice Ao39 t318.length co39, .int .i64 t319] rfl (by (try simp only [List.map_toArray, List.map_cons, List.map_nil]); first | done | rfl | (simp only [List.length_drop, List.length_take]; rfl)) ?_; (with_reducible refine (spec_LogPunctual.calls k _ _ t318 t319 t323 _ ?side1 ?side2 A5.out).mono ?_); (case side1 => repeat (first | exact (Kd.R_reads' HO321.out).2.2 | (with_reducible refine Kd.C_alloc ?_ _) | (with_reducible refine Kd.C_drewN ?_ _) | (with_reducible refine Kd.C_drew ?_))); (case side2 => exact (Kd.R_reads' HO321.out).2.1); rintro e w' ⟨rfl, ⟨nd, rfl⟩⟩; refine ⟨_, rfl, ?_⟩) | (go_at_call 11; (with_reducible refine (impl_LogPunctual.calls k _ _ t318 (wrap64 (t319 + 1)) true _ ?side1 ?side2 A28.out).mono ?_); (case side1 => repeat (first | exact (Kd.R_reads' HO321.out).2.2 | (with_reducible refine Kd.C_alloc ?_ _) | (with_reducible refine Kd.C_drewN ?_ _) | (with_reducible refine Kd.C_drew ?_))); (case side2 => exact (Kd.R_reads' HO321.out).2.1); rintro e w41 ⟨rfl, hb⟩; have n0_ := Aside0.mk (Kd.R_below (by (with_reducible repeat (first | apply Kd.R_alloc | apply Kd.R_drewN | apply Kd.R_drew)); exact HO321.out) hb); have n1_ := Aside0.mk (below_step (by repeat (first | (with_reducible first | exact HB.out | apply below_alloc | apply pw_below_drewN | apply below_drew1) | exact HB.out)) hb); clear HO321; clear HB; have HO321 := n0_; have HB := n1_; clear n0_ n1_; (try clear hb); (try clear hb2); (try clear hk); (try clear hi); have q42 : ((ji30) : Int) ≤ ((t318.length : Int) : Int) := of_decide_eq_true (by first | (with_reducible assumption) | assumption); obtain ⟨i042, hi042, _, hsz42, _⟩ := info_parts info47; have hroom42 : t318.length ≤ co39 := (Kd.R_reads' HO321.out).2.1; have hC42 : Kd.C k47 _ Ao39 t318.length t318 := (Kd.R_reads' HO321.out).2.2; have hcut42 := cut_to (P := Try.prog) 23 47 .i64 Try.underlying23 hi042 Ao39 t318.length co39 (ji30) (of_decide_eq_true (by first | (with_reducible assumption) | assumption)) q42 hroom42; have hr42 := Kd.C_take (m := ((ji30) : Int).toNat) hC42 (by omega); have hy42 : y335.length = ((ji30) : Int).toNat := (by rw [Ny335.out, List.length_take]; omega); rw [← Ny335.out] at hr42; rw [← hy42] at hcut42; have HR338 := Aside0.mk hr42; have HC338 := Aside0.mk (show y335.length ≤ co39 from by omega); clear hr42 hC42 hroom42 hi042 hsz42; have KY42 := Aside0.mk hy42; clear hy42; have KL42 := Aside0.mk (show ((ji30) : Int).toNat ≤ t318.length from by omega); replace q42 := eq_true q42) | (go_at_call 11; (with_reducible refine (impl_LogPunctual.calls k _ _ y335 t319 true _ ?side1 ?side2 A33.out).mono ?_); (case side1 => repeat (first | exact (by repeat (first | (with_reducible exact HR338.out) | (with_reducible refine Kd.C_alloc ?_ _) | (with_reducible refine Kd.C_drewN ?_ _) | (with_reducible refine Kd.C_drew ?_) | exact HR338.out)) | (with_reducible refine Kd.C_alloc ?_ _) | (with_reducible refine Kd.C_drewN ?_ _) | (with_reducible refine Kd.C_drew ?_))); (case side2 => exact HC338.out); rintro e w43 ⟨rfl, hb⟩; have n0_ := Aside0.mk (Kd.R_below (by (with_reducible repeat (first | apply Kd.R_alloc | apply Kd.R_drewN | apply Kd.R_drew)); exact HO321.out) hb); have n1_ := Aside0.mk (Kd.C_below (by repeat (first | (with_reducible exact HR338.out) | (with_reducible refine Kd.C_alloc ?_ _) | (with_reducible refine Kd.C_drewN ?_ _) | (with_reducible refine Kd.C_drew ?_) | exact HR338.out)) hb); have n2_ := Aside0.mk (below_step (by repeat (first | (with_reducible first | exact HB.out | apply below_alloc | apply pw_below_drewN | apply below_drew1) | exact HB.out)) hb); clear HO321; clear HR338; clear HB; have HO321 := n0_; have HR338 := n1_; have HB := n2_; clear n0_ n1_ n2_; (try clear hb); (try clear hb2); (try clear hk); (try clear hi)) | ((with_reducible refine gate_dst (N := 49) rfl ?_); (try (refine gate_guard (by rfl) ?_; dsimp only)); refine Kd.R_lit k47 _ 47 ?hg (N := 49) ?hd (xs := ([] : List (S47))) (inner := []) (ok := fun _ => True) (okp := fun _ => True) ?hr ?hp (fun _ hk => hk) trivial (Below.refl _ _) (Nat.le_refl _) (by simp) ?_; (case hd => rfl); (case hg => rfl); (case hr => first | (go_simp; done) | (go_simp; rfl)); (case hp => exact (Reps.none _ _)); intro v341 w44 ho45 hb hg_ hnew_; clear hg_ hnew_; (first | rw [← Ny340.out] at ho45 | (simp only [Int.reduceToNat] at ho45; rw [← Ny340.out] at ho45)); have n0_ := Aside0.mk (Kd.R_elder' (by (with_reducible repeat (first | apply Kd.R_alloc | apply Kd.R_drewN | apply Kd.R_drew)); exact HO321.out) (Kd.R_base ho45) hb); have n1_ := Aside0.mk (Kd.R_lower (Kd.R_new' ho45 (Kd.R_lt (by (with_reducible repeat (first | apply Kd.R_alloc | apply Kd.R_drewN | apply Kd.R_drew)); exact HO321.out))) (below_size (by repeat (first | (with_reducible first | exact HB.out | apply below_alloc | apply pw_below_drewN | apply below_drew1) | exact HB.out)))); have n2_ := Aside0.mk (Kd.C_below (by repeat (first | (with_reducible exact HR338.out) | (with_reducible refine Kd.C_alloc ?_ _) | (with_reducible refine Kd.C_drewN ?_ _) | (with_reducible refine Kd.C_drew ?_) | exact HR338.out)) hb); have n3_ := Aside0.mk (below_step (by repeat (first | (with_reducible first | exact HB.out | apply below_alloc | apply pw_below_drewN | apply below_drew1) | exact HB.out)) hb); clear HO321; clear HR338; clear HB; have HO321 := n0_; have HO342 := n1_; have HR338 := n2_; have HB := n3_; clear n0_ n1_ n2_ n3_; clear hb ho45; obtain ⟨Ao46, co46, eo46⟩ := Kd.R_slice HO342.out; subst eo46) | (go_at_call 11; (with_reducible refine (impl_LogPunctual.calls k _ _ y340 0 true _ ?side1 ?side2 A35.out).mono ?_); (case side1 => repeat (first | exact (Kd.R_reads' HO342.out).2.2 | (with_reducible refine Kd.C_alloc ?_ _) | (with_reducible refine Kd.C_drewN ?_ _) | (with_reducible refine Kd.C_drew ?_))); (case side2 => exact (Kd.R_reads' HO342.out).2.1); rintro e w47 ⟨rfl, hb⟩; have n0_ := Aside0.mk (Kd.R_below (by (with_reducible repeat (first | apply Kd.R_alloc | apply Kd.R_drewN | apply Kd.R_drew)); exact HO321.out) hb); have n1_ := Aside0.mk (Kd.R_below (by (with_reducible repeat (first | apply Kd.R_alloc | apply Kd.R_drewN | apply Kd.R_drew)); exact HO342.out) hb); have n2_ := Aside0.mk (Kd.C_below (by repeat (first | (with_reducible exact HR338.out) | (with_reducible refine Kd.C_alloc ?_ _) | (with_reducible refine Kd.C_drewN ?_ _) | (with_reducible refine Kd.C_drew ?_) | exact HR338.out)) hb); have n3_ := Aside0.mk (below_step (by repeat (first | (with_reducible first | exact HB.out | apply below_alloc | apply pw_below_drewN | apply below_drew1) | exact HB.out)) hb); clear HO321; clear HO342; clear HR338; clear HB; have HO321 := n0_; have HO342 := n1_; have HR338 := n2_; have HB := n3_; clear n0_ n1_ n2_ n3_; (try clear hb); (try clear hb2); (try clear hk); (try clear hi)) | (go_at_call 13; (with_reducible refine (laws_frOk.calls  t344 _ A37.out).mono ?_); rintro e w48 ⟨rfl, hb⟩; have n0_ := Aside0.mk (Kd.R_below (by (with_reducible repeat (first | apply Kd.R_alloc | apply Kd.R_drewN | apply Kd.R_drew)); exact HO321.out) hb); have n1_ := Aside0.mk (Kd.R_below (by (with_reducible repeat (first | apply Kd.R_alloc | apply Kd.R_drewN | apply Kd.R_drew)); exact HO342.out) hb); have n2_ := Aside0.mk (Kd.C_below (by repeat (first | (with_reducible exact HR338.out) | (with_reducible refine Kd.C_alloc ?_ _) | (with_reducible refine Kd.C_drewN ?_ _) | (with_reducible refine Kd.C_drew ?_) | exact HR338.out)) hb); have n3_ := Aside0.mk (below_step (by repeat (first | (with_reducible first | exact HB.out | apply below_alloc | apply pw_below_drewN | apply below_drew1) | exact HB.out)) hb); clear HO321; clear HO342; clear HR338; clear HB; have HO321 := n0_; have HO342 := n1_; have HR338 := n2_; have HB := n3_; clear n0_ n1_ n2_ n3_; (try clear hb); (try clear hb2); (try clear hk); (try clear hi)))
                      go_ret
                      exact ⟨by first | rfl | (refine congrArg (fun b_ => Ending.returned (Value.bool b_)) ?_; first | exact hrt_.out | simpa using hrt_.out | (have hq_ := hrt_.out; simp at hq_ ⊢; omega)) | (simp [errW_none, errW_some] <;> rfl) | (simp only [← hji30]; first | rfl | (simp [errW_none, errW_some] <;> rfl)) | (simp [*, errW_none, errW_some] <;> rfl), by repeat (first | (with_reducible first | exact HB.out | apply below_alloc | apply pw_below_drewN | apply below_drew1) | exact HB.out)⟩
                    · replace c36 := Bool.eq_false_iff.mpr c36
                      subst c36
                      have H1 : (some false) = some true := by rw [if_neg (show ¬ (false = true) by decide)] at H; exact H
                      clear H
                      have H := H1
                      clear H1
                      exact absurd H (by simp)
                  · replace c34 := Bool.eq_false_iff.mpr c34
                    subst c34
                    have H1 : (some false) = some true := by rw [if_neg (show ¬ (false = true) by decide)] at H; exact H
                    clear H
                    have H := H1
                    clear H1
                    exact absurd H (by simp)
                · rw [if_neg c32] at H
                  exact absurd H (by simp)
              · rw [if_neg c31] at H
                exact absurd H (by simp)
            · replace c29 := Bool.eq_false_iff.mpr c29
              subst c29
              have H1 : (some false) = some true := by rw [if_neg (show ¬ (false = true) by decide)] at H; exact H
              clear H
              have H := H1
              clear H1
              exact absurd H (by simp)
        · replace c8 := Bool.eq_false_iff.mpr c8
          subst c8
          have H1 : ((impl_LogPunctual.f k (([] : List (S47))) 0).bind fun t348 => (if t348 = true then ((laws_frOk.f).bind fun t349 => (some t349)) else (some false))) = some true := by rw [if_neg (show ¬ (false = true) by decide)] at H; exact H
          clear H
          have H := H1
          clear H1
          obtain ⟨y345, hy345⟩ : ∃ y_ : List (S47), y_ = (([] : List (S47))) := ⟨_, rfl⟩
          replace H : ((impl_LogPunctual.f k y345 0).bind fun t348 => (if t348 = true then ((laws_frOk.f).bind fun t349 => (some t349)) else (some false))) = some true := by first | (rw [hy345]; with_reducible exact H) | (have H2_ := (Option.bind_some _ _).symm.trans H; rw [hy345]; with_reducible exact H2_) | (have H2_ := (Option.bind_some _ _).symm.trans H; with_reducible exact H2_) | with_reducible exact H | (rw [hy345]; exact H) | exact H
          have Ny345 := Aside0.mk hy345
          clear hy345
          replace H := Option.bind_eq_some_iff.mp H
          obtain ⟨t348, A490, H⟩ := H
          replace H : (if t348 = true then ((laws_frOk.f).bind fun t349 => (some t349)) else (some false)) = some true := H
          have A49 := Aside0.mk A490
          clear A490
          by_cases c50 : t348 = true
          · subst c50
            have H1 : ((laws_frOk.f).bind fun t349 => (some t349)) = some true := by rw [if_pos rfl] at H; exact H
            clear H
            have H := H1
            clear H1
            replace H := Option.bind_eq_some_iff.mp H
            obtain ⟨t349, A510, H⟩ := H
            replace H : (some t349) = some true := H
            have A51 := Aside0.mk A510
            clear A510
            have hrt_ := Aside0.mk (Option.some.inj H)
            clear H
            go_enter Try.func3, Try.ntmps3
            go_wp2_with (first | ((with_reducible refine gate_callee (f := 10) rfl ?_); refine goesL_ (some 12) rfl rfl Try.func10 (by kernel_rfl) rfl #[.slice A0 l0.length c0] rfl (by (try simp only [List.map_toArray, List.map_cons, List.map_nil]); first | done | rfl | (simp only [List.length_drop, List.length_take]; rfl)) ?_; (with_reducible refine (spec_DrawLogPunctual.calls k _ _ l0 t318 t319 _ ?side1 ?side2 A3.out).mono ?_); (case side1 => repeat (first | exact HR0.out | (with_reducible refine Kd.C_alloc ?_ _) | (with_reducible refine Kd.C_drewN ?_ _) | (with_reducible refine Kd.C_drew ?_))); (case side2 => exact HC0.out); rintro e w52 ⟨v320, rfl, ho0, hb⟩; refine ⟨_, rfl, ?_⟩; have n0_ := Aside0.mk (Kd.R_lower ho0 (below_size (by repeat (first | (with_reducible first | exact HB.out | apply below_alloc | apply pw_below_drewN | apply below_drew1) | exact HB.out)))); have n1_ := Aside0.mk (below_step (by repeat (first | (with_reducible first | exact HB.out | apply below_alloc | apply pw_below_drewN | apply below_drew1) | exact HB.out)) hb); clear HB; have HO321 := n0_; have HB := n1_; clear n0_ n1_; (try clear hb); (try clear hb2); (try clear hk); (try clear hi); (try clear ho0); obtain ⟨Ao53, co53, eo53⟩ := Kd.R_slice HO321.out; subst eo53) | ((with_reducible refine gate_callee (f := 11) rfl ?_); refine goesL_ (some 17) rfl rfl Try.func11 (by kernel_rfl) rfl #[.slice Ao53 t318.length co53, .int .i64 t319] rfl (by (try simp only [List.map_toArray, List.map_cons, List.map_nil]); first | done | rfl | (simp only [List.length_drop, List.length_take]; rfl)) ?_; (with_reducible refine (impl_LogPunctual.calls k _ _ t318 t319 false _ ?side1 ?side2 A4.out).mono ?_); (case side1 => repeat (first | exact (Kd.R_reads' HO321.out).2.2 | (with_reducible refine Kd.C_alloc ?_ _) | (with_reducible refine Kd.C_drewN ?_ _) | (with_reducible refine Kd.C_drew ?_))); (case side2 => exact (Kd.R_reads' HO321.out).2.1); rintro e w54 ⟨rfl, hb⟩; refine ⟨_, rfl, ?_⟩; have n0_ := Aside0.mk (Kd.R_below (by (with_reducible repeat (first | apply Kd.R_alloc | apply Kd.R_drewN | apply Kd.R_drew)); exact HO321.out) hb); have n1_ := Aside0.mk (below_step (by repeat (first | (with_reducible first | exact HB.out | apply below_alloc | apply pw_below_drewN | apply below_drew1) | exact HB.out)) hb); clear HO321; clear HB; have HO321 := n0_; have HB := n1_; clear n0_ n1_; (try clear hb); (try clear hb2); (try clear hk); (try clear hi)) | ((with_reducible refine gate_callee (f := 12) rfl ?_); refine goesL_ (some 21) rfl rfl Try.func12 (by kernel_rfl) rfl #[.slice Ao53 t318.length co53, .int .i64 t319] rfl (by (try simp only [List.map_toArray, List.map_cons, List.map_nil]); first | done | rfl | (simp only [List.length_drop, List.length_take]; rfl)) ?_; (with_reducible refine (spec_LogPunctual.calls k _ _ t318 t319 t323 _ ?side1 ?side2 A5.out).mono ?_); (case side1 => repeat (first | exact (Kd.R_reads' HO321.out).2.2 | (with_reducible refine Kd.C_alloc ?_ _) | (with_reducible refine Kd.C_drewN ?_ _) | (with_reducible refine Kd.C_drew ?_))); (case side2 => exact (Kd.R_reads' HO321.out).2.1); rintro e w' ⟨rfl, ⟨nd, rfl⟩⟩; refine ⟨_, rfl, ?_⟩) | ((with_reducible refine gate_dst (N := 49) rfl ?_); (try (refine gate_guard (by rfl) ?_; dsimp only)); refine Kd.R_lit k47 _ 47 ?hg (N := 49) ?hd (xs := ([] : List (S47))) (inner := []) (ok := fun _ => True) (okp := fun _ => True) ?hr ?hp (fun _ hk => hk) trivial (Below.refl _ _) (Nat.le_refl _) (by simp) ?_; (case hd => rfl); (case hg => rfl); (case hr => first | (go_simp; done) | (go_simp; rfl)); (case hp => exact (Reps.none _ _)); intro v346 w55 ho56 hb hg_ hnew_; clear hg_ hnew_; (first | rw [← Ny345.out] at ho56 | (simp only [Int.reduceToNat] at ho56; rw [← Ny345.out] at ho56)); have n0_ := Aside0.mk (Kd.R_elder' (by (with_reducible repeat (first | apply Kd.R_alloc | apply Kd.R_drewN | apply Kd.R_drew)); exact HO321.out) (Kd.R_base ho56) hb); have n1_ := Aside0.mk (Kd.R_lower (Kd.R_new' ho56 (Kd.R_lt (by (with_reducible repeat (first | apply Kd.R_alloc | apply Kd.R_drewN | apply Kd.R_drew)); exact HO321.out))) (below_size (by repeat (first | (with_reducible first | exact HB.out | apply below_alloc | apply pw_below_drewN | apply below_drew1) | exact HB.out)))); have n2_ := Aside0.mk (below_step (by repeat (first | (with_reducible first | exact HB.out | apply below_alloc | apply pw_below_drewN | apply below_drew1) | exact HB.out)) hb); clear HO321; clear HB; have HO321 := n0_; have HO347 := n1_; have HB := n2_; clear n0_ n1_ n2_; clear hb ho56; obtain ⟨Ao57, co57, eo57⟩ := Kd.R_slice HO347.out; subst eo57) | (go_at_call 11; (with_reducible refine (impl_LogPunctual.calls k _ _ y345 0 true _ ?side1 ?side2 A49.out).mono ?_); (case side1 => repeat (first | exact (Kd.R_reads' HO347.out).2.2 | (with_reducible refine Kd.C_alloc ?_ _) | (with_reducible refine Kd.C_drewN ?_ _) | (with_reducible refine Kd.C_drew ?_))); (case side2 => exact (Kd.R_reads' HO347.out).2.1); rintro e w58 ⟨rfl, hb⟩; have n0_ := Aside0.mk (Kd.R_below (by (with_reducible repeat (first | apply Kd.R_alloc | apply Kd.R_drewN | apply Kd.R_drew)); exact HO321.out) hb); have n1_ := Aside0.mk (Kd.R_below (by (with_reducible repeat (first | apply Kd.R_alloc | apply Kd.R_drewN | apply Kd.R_drew)); exact HO347.out) hb); have n2_ := Aside0.mk (below_step (by repeat (first | (with_reducible first | exact HB.out | apply below_alloc | apply pw_below_drewN | apply below_drew1) | exact HB.out)) hb); clear HO321; clear HO347; clear HB; have HO321 := n0_; have HO347 := n1_; have HB := n2_; clear n0_ n1_ n2_; (try clear hb); (try clear hb2); (try clear hk); (try clear hi)) | (go_at_call 13; (with_reducible refine (laws_frOk.calls  t349 _ A51.out).mono ?_); rintro e w59 ⟨rfl, hb⟩; have n0_ := Aside0.mk (Kd.R_below (by (with_reducible repeat (first | apply Kd.R_alloc | apply Kd.R_drewN | apply Kd.R_drew)); exact HO321.out) hb); have n1_ := Aside0.mk (Kd.R_below (by (with_reducible repeat (first | apply Kd.R_alloc | apply Kd.R_drewN | apply Kd.R_drew)); exact HO347.out) hb); have n2_ := Aside0.mk (below_step (by repeat (first | (with_reducible first | exact HB.out | apply below_alloc | apply pw_below_drewN | apply below_drew1) | exact HB.out)) hb); clear HO321; clear HO347; clear HB; have HO321 := n0_; have HO347 := n1_; have HB := n2_; clear n0_ n1_ n2_; (try clear hb); (try clear hb2); (try clear hk); (try clear hi)))
            go_ret
            exact ⟨by first | rfl | (refine congrArg (fun b_ => Ending.returned (Value.bool b_)) ?_; first | exact hrt_.out | simpa using hrt_.out | (have hq_ := hrt_.out; simp at hq_ ⊢; omega)) | (simp [errW_none, errW_some] <;> rfl) | (simp [*, errW_none, errW_some] <;> rfl), by repeat (first | (with_reducible first | exact HB.out | apply below_alloc | apply pw_below_drewN | apply below_drew1) | exact HB.out)⟩
          · replace c50 := Bool.eq_false_iff.mpr c50
            subst c50
            have H1 : (some false) = some true := by rw [if_neg (show ¬ (false = true) by decide)] at H; exact H
            clear H
            have H := H1
            clear H1
            exact absurd H (by simp)

/-- THE ONE PURE STATEMENT of laws_FnLogPunctual: yours. -/
def laws_FnLogPunctual.Pure : Prop := ∀ (l0 : List Int), l0.length ≤ maxLen → l0.length * 1 ≤ 140737488351232 → (∀ x ∈ l0, (Lit.int .u8 x).wf = true) → ∃ k, laws_FnLogPunctual.f k l0 = some true
theorem laws_FnLogPunctual.walk (P : laws_FnLogPunctual.Pure) (a0 : Option Addr) (len0 cap0 : Nat) (z0 : List Int) (w : World) (w0 : (a0 = none ∧ len0 = 0 ∧ cap0 = 0 ∧ z0 = []) ∨ ∃ x, a0 = some x ∧ len0 ≤ cap0 ∧ cap0 ≤ maxLen ∧ z0.length = cap0 ∧ (∀ i, i < z0.length → w.cell? (x.add i) = some (.int .u8 (z0.getD i 0))) ∧ ∀ n ∈ z0, (Lit.int .u8 n).wf = true) (y0 : len0 * 1 ≤ 140737488351232) :
    Calls Try.prog 3 #[.slice a0 len0 cap0] w fun e w' => e = .returned (.bool true) ∧ Below w.heap.size w w' := by
  obtain ⟨l0, rfl, hr0, hm0, hw0, hc0⟩ := ReadsInt.ofRowC w0
  obtain ⟨k, h⟩ := P l0 hm0 y0 hw0
  refine (laws_FnLogPunctual.calls k _ _ l0 w (Kd.C_of_reads (d := (0 : Int)) (h1 := fun _ => rfl) hr0) hc0 h).mono ?_
  rintro e w' ⟨rfl, hd⟩
  exact ⟨rfl, hd⟩

end Go.Proofs.Ytofhaglklhmilaa.PFnLogPunctual
