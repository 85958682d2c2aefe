/- Functions of the program as Lean functions, with their contracts, written by a program of mine over the kit's printer and in part by hand. No condition of its own. -/
import Derived.Test.YtjclmjmbhhlbcaaQFnTabSamex0
import Derived.Test.YtjclmjmbhhlbcaaQFnTabSamex2
import Derived.Test.YtjclmjmbhhlbcaaQFnTabSamex8
namespace Go.Proofs.Ytjclmjmbhhlbcaa.PFnTabSame
open Go.RowKit Go.Proofs.YtjclmjmbhhlbcaaW.PrintWords Go.Proofs.YtjclmjmbhhlbcaaW.PrintLast Go.Proofs.YtjclmjmbhhlbcaaW.PrintMore
attribute [local go_sem] max2_int min2_int max_two min_two max_three min_three max_four min_four   -- for this text's walks alone
set_option linter.unusedVariables false
set_option linter.unusedSimpArgs false

attribute [local go_sem high] eqA67
/-! ### spec_TabSame: function 29 -/
def spec_TabSame.l0 : Nat → List (S67) → List (S67) → Int → Option (Bool)
  | 0, _, _, _ => none
  | k + 1, x0, x1, x5 => if x5 < (x0.length : Int) then (if 0 ≤ x5 then (if x5 < (x1.length : Int) then (if (!(((rd_T67 x0 x5).f0) == ((rd_T67 x1 x5).f0)) || ((!(((rd_T67 x0 x5).f1.f0) == ((rd_T67 x1 x5).f1.f0)) || (!(((rd_T67 x0 x5).f1.f1) == ((rd_T67 x1 x5).f1.f1)))) || ((!(((rd_T67 x0 x5).f2.f0) == ((rd_T67 x1 x5).f2.f0)) || (!(((rd_T67 x0 x5).f2.f1) == ((rd_T67 x1 x5).f2.f1)) || (!(((rd_T67 x0 x5).f2.f2) == ((rd_T67 x1 x5).f2.f2)) || (!(((rd_T67 x0 x5).f2.f3) == ((rd_T67 x1 x5).f2.f3))))))))) = true then (some false) else (spec_TabSame.l0 k x0 x1 (wrap64 (x5 + 1)))) else (none)) else (none)) else (some true)
def spec_TabSame.f (k : Nat) (l0 : List (S67)) (l1 : List (S67)) : Option (Bool) := if (l0.length : Int) = (l1.length : Int) then (spec_TabSame.l0 k l0 l1 0) else (some false)
theorem spec_TabSame.mono_l : ∀ k, (∀ y0 y1 y2, LeO (spec_TabSame.l0 k y0 y1 y2) (spec_TabSame.l0 (k + 1) y0 y1 y2))
  | 0 => fun _ _ _ r h => by simp [spec_TabSame.l0] at h
  | k + 1 => by
    have ih0 := spec_TabSame.mono_l k
    · intro y0 y1 y2
      unfold spec_TabSame.l0
      repeat' first
      | (with_reducible exact ih0 _ _ _)
      | (with_reducible exact LeO.refl _)
      | (with_reducible exact LeO.none _)
      | (with_reducible refine LeO.ite ?_ ?_)
      | (with_reducible refine LeO.bind ?_ (fun _ => ?_))
      | exact ih0 _ _ _
      | exact LeO.none _
      | refine LeO.ite ?_ ?_
      | refine LeO.bind ?_ (fun _ => ?_)
theorem spec_TabSame.mono : ∀ a0 a1 k, LeO (spec_TabSame.f k a0 a1) (spec_TabSame.f (k + 1) a0 a1) := by
  intro a0 a1 k
  have ih0 := spec_TabSame.mono_l k
  unfold spec_TabSame.f
  repeat' first
      | (with_reducible exact ih0 _ _ _)
      | (with_reducible exact LeO.refl _)
      | (with_reducible exact LeO.none _)
      | (with_reducible refine LeO.ite ?_ ?_)
      | (with_reducible refine LeO.bind ?_ (fun _ => ?_))
      | exact ih0 _ _ _
      | exact LeO.none _
      | refine LeO.ite ?_ ?_
      | refine LeO.bind ?_ (fun _ => ?_)
set_option maxHeartbeats 8000000 in
set_option maxRecDepth 100000 in
theorem spec_TabSame.calls (k : Nat) (A0 : Option Addr) (c0 : Nat) (l0 : List (S67)) (A1 : Option Addr) (c1 : Nat) (l1 : List (S67)) (r : Bool) (w : World) (hr0 : Kd.C k67 w A0 l0.length l0) (hc0 : l0.length ≤ c0) (hr1 : Kd.C k67 w A1 l1.length l1) (hc1 : l1.length ≤ c1) (h : spec_TabSame.f k l0 l1 = some r) :
    Calls Try.prog 29 #[.slice A0 l0.length c0, .slice A1 l1.length c1] w fun e w' => e = .returned (.bool r) ∧ Drawn0 w w' := by
  have hu67 := Try.underlying67
  have HR0 := Aside0.mk hr0
  have HC0 := Aside0.mk hc0
  clear hr0 hc0
  have HR1 := Aside0.mk hr1
  have HC1 := Aside0.mk hc1
  clear hr1 hc1
  have H : (if (l0.length : Int) = (l1.length : Int) then (spec_TabSame.l0 k l0 l1 0) else (some false)) = some r := h
  clear h
  by_cases c3 : (l0.length : Int) = (l1.length : Int)
  · rw [if_pos c3] at H
    have c3b0 : ((l0.length : Int) == (l1.length : Int)) = true := beq_iff_eq.mpr c3
    have c3b1 : ((l0.length : Int) != (l1.length : Int)) = false := bne_eq_false_iff_eq.mpr c3
    have c3b2 : (l0.length == l1.length) = true := by first | simpa using c3 | (simp at c3 ⊢; omega)
    clear c3
    have H' := Aside0.mk H
    clear H
    go_enter Try.func29, Try.ntmps29
    go_wp2
    repeat (go_quiet (fail); try go_wp2)
    go_loopg [5] k (fun kq v5 w' => ∃ (x5_1 : Int), v5 = .int .i64 x5_1 ∧ Aside0 (spec_TabSame.l0 kq l0 l1 x5_1 = some r) ∧ Aside0 (kq ≤ k) ∧ Drawn0 w w')
    case atStart => exact ⟨(0), (by first | rfl | (simp; done) | (simp [*]; done)), H', ⟨Nat.le_refl _⟩, by repeat (first | exact Drawn0.refl _ | apply Drawn0.step)⟩
    case round =>
      clear H'
      try clear c1
      try clear c2
      try clear p2
      try clear c3
      try clear c3b0
      try clear c3b1
      try clear c3b2
      obtain ⟨x5_1, rfl, HA, HK1, ⟨m1, rfl⟩⟩ := hrel
      cases gk with
      | zero => exact absurd HA.out (by simp [spec_TabSame.l0])
      | succ k1 =>
        have H := HA.out
        clear HA
        simp only [spec_TabSame.l0] at H
        by_cases c4 : x5_1 < (l0.length : Int)
        · rw [if_pos c4] at H
          have c4b0 : decide (x5_1 < (l0.length : Int)) = true := decide_eq_true c4
          clear c4
          by_cases c5 : 0 ≤ x5_1
          · rw [if_pos c5] at H
            have c5b0 : decide (0 ≤ x5_1) = true := decide_eq_true c5
            clear c5
            by_cases c6 : x5_1 < (l1.length : Int)
            · rw [if_pos c6] at H
              have c6b0 : decide (x5_1 < (l1.length : Int)) = true := decide_eq_true c6
              clear c6
              by_cases c7 : (!(((rd_T67 l0 x5_1).f0) == ((rd_T67 l1 x5_1).f0)) || ((!(((rd_T67 l0 x5_1).f1.f0) == ((rd_T67 l1 x5_1).f1.f0)) || (!(((rd_T67 l0 x5_1).f1.f1) == ((rd_T67 l1 x5_1).f1.f1)))) || ((!(((rd_T67 l0 x5_1).f2.f0) == ((rd_T67 l1 x5_1).f2.f0)) || (!(((rd_T67 l0 x5_1).f2.f1) == ((rd_T67 l1 x5_1).f2.f1)) || (!(((rd_T67 l0 x5_1).f2.f2) == ((rd_T67 l1 x5_1).f2.f2)) || (!(((rd_T67 l0 x5_1).f2.f3) == ((rd_T67 l1 x5_1).f2.f3))))))))) = true
              · rw [if_pos c7] at H
                have c7b0 : (!(((rd_T67 l0 x5_1).f0) == ((rd_T67 l1 x5_1).f0)) || ((!(((rd_T67 l0 x5_1).f1.f0) == ((rd_T67 l1 x5_1).f1.f0)) || (!(((rd_T67 l0 x5_1).f1.f1) == ((rd_T67 l1 x5_1).f1.f1)))) || ((!(((rd_T67 l0 x5_1).f2.f0) == ((rd_T67 l1 x5_1).f2.f0)) || (!(((rd_T67 l0 x5_1).f2.f1) == ((rd_T67 l1 x5_1).f2.f1)) || (!(((rd_T67 l0 x5_1).f2.f2) == ((rd_T67 l1 x5_1).f2.f2)) || (!(((rd_T67 l0 x5_1).f2.f3) == ((rd_T67 l1 x5_1).f2.f3))))))))) = true := c7
                clear c7
                obtain rfl := Option.some.inj H
                have p362 : 0 ≤ (x5_1 : Int) := of_decide_eq_true (by first | (with_reducible assumption) | assumption)
                have q362 : x5_1 < (l0.length : Int) := of_decide_eq_true (by first | (with_reducible assumption) | assumption)
                obtain ⟨ad362, e362, hx362_0, hx362_1, hx362_2, hx362_3, hx362_4, hx362_5, hx362_6⟩ := at_T67 HR0.out x5_1 p362 q362
                cases e362
                replace p362 := eq_true p362
                replace q362 := eq_true q362
                have p363 : 0 ≤ (x5_1 : Int) := of_decide_eq_true (by first | (with_reducible assumption) | assumption)
                have q363 : x5_1 < (l1.length : Int) := of_decide_eq_true (by first | (with_reducible assumption) | assumption)
                obtain ⟨ad363, e363, hx363_0, hx363_1, hx363_2, hx363_3, hx363_4, hx363_5, hx363_6⟩ := at_T67 HR1.out x5_1 p363 q363
                cases e363
                replace p363 := eq_true p363
                replace q363 := eq_true q363
                go_wp2
                repeat (go_quiet (fail); try go_wp2)
                go_ret
                exact ⟨by first | rfl | (simp; done) | (simp [*]; done), by repeat (first | exact Drawn0.refl _ | apply Drawn0.step)⟩
              · rw [if_neg c7] at H
                have c7b0 : (!(((rd_T67 l0 x5_1).f0) == ((rd_T67 l1 x5_1).f0)) || ((!(((rd_T67 l0 x5_1).f1.f0) == ((rd_T67 l1 x5_1).f1.f0)) || (!(((rd_T67 l0 x5_1).f1.f1) == ((rd_T67 l1 x5_1).f1.f1)))) || ((!(((rd_T67 l0 x5_1).f2.f0) == ((rd_T67 l1 x5_1).f2.f0)) || (!(((rd_T67 l0 x5_1).f2.f1) == ((rd_T67 l1 x5_1).f2.f1)) || (!(((rd_T67 l0 x5_1).f2.f2) == ((rd_T67 l1 x5_1).f2.f2)) || (!(((rd_T67 l0 x5_1).f2.f3) == ((rd_T67 l1 x5_1).f2.f3))))))))) = false := by simpa using c7
                clear c7
                have H' := Aside0.mk H
                clear H
                have p362 : 0 ≤ (x5_1 : Int) := of_decide_eq_true (by first | (with_reducible assumption) | assumption)
                have q362 : x5_1 < (l0.length : Int) := of_decide_eq_true (by first | (with_reducible assumption) | assumption)
                obtain ⟨ad362, e362, hx362_0, hx362_1, hx362_2, hx362_3, hx362_4, hx362_5, hx362_6⟩ := at_T67 HR0.out x5_1 p362 q362
                cases e362
                replace p362 := eq_true p362
                replace q362 := eq_true q362
                have p363 : 0 ≤ (x5_1 : Int) := of_decide_eq_true (by first | (with_reducible assumption) | assumption)
                have q363 : x5_1 < (l1.length : Int) := of_decide_eq_true (by first | (with_reducible assumption) | assumption)
                obtain ⟨ad363, e363, hx363_0, hx363_1, hx363_2, hx363_3, hx363_4, hx363_5, hx363_6⟩ := at_T67 HR1.out x5_1 p363 q363
                cases e363
                replace p363 := eq_true p363
                replace q363 := eq_true q363
                go_wp2
                repeat (go_quiet (fail); try go_wp2)
                go_roundg k1
                case measure => have := HK1.out; omega
                case rel => exact ⟨(wrap64 (x5_1 + 1)), (by first | rfl | (simp; done) | (simp [*]; done)), H', ⟨by have := HK1.out; omega⟩, by repeat (first | exact Drawn0.refl _ | apply Drawn0.step)⟩
            · rw [if_neg c6] at H
              exact absurd H (by simp)
          · rw [if_neg c5] at H
            exact absurd H (by simp)
        · rw [if_neg c4] at H
          have c4b0 : decide (x5_1 < (l0.length : Int)) = false := decide_eq_false c4
          clear c4
          obtain rfl := Option.some.inj H
          go_wp2
          repeat (go_quiet (fail); try go_wp2)
          go_ret
          exact ⟨by first | rfl | (simp; done) | (simp [*]; done), by repeat (first | exact Drawn0.refl _ | apply Drawn0.step)⟩
  · rw [if_neg c3] at H
    have c3b0 : ((l0.length : Int) == (l1.length : Int)) = false := beq_eq_false_iff_ne.mpr c3
    have c3b1 : ((l0.length : Int) != (l1.length : Int)) = true := bne_iff_ne.mpr c3
    have c3b2 : (l0.length == l1.length) = false := by first | simpa using c3 | (simp at c3 ⊢; omega)
    obtain rfl := Option.some.inj H
    go_enter Try.func29, Try.ntmps29
    go_wp2
    repeat (go_quiet (fail); try go_wp2)
    go_ret
    exact ⟨by first | rfl | (simp; done) | (simp [*]; done), by repeat (first | exact Drawn0.refl _ | apply Drawn0.step)⟩

/-! ### laws_FnTabSame: function 8 -/
def laws_FnTabSame.f (k : Nat) (l0 : List Int) : Option (Bool) := if (l0.length : Int) > 1048576 then (some true) else ((spec_DrawTabSame.f k l0).bind fun bt364 => ((impl_TabSame.f k bt364.1 bt364.2).bind fun t370 => ((laws_frTab.f k bt364.1 bt364.2).bind fun t371 => (if (t370 == t371) = true then ((impl_TabSame.f k bt364.1 bt364.2).bind fun t372 => ((spec_TabSame.f k bt364.1 bt364.2).bind fun t373 => (if (t372 == t373) = true then ((impl_TabSame.f k bt364.2 bt364.1).bind fun t374 => ((laws_frTab.f k bt364.1 bt364.2).bind fun t375 => (if (t374 == t375) = true then ((impl_TabSame.f k (([] : List (S67))) (([] : List (S67)))).bind fun t382 => (some t382)) else (some false)))) else (some false)))) else (some false)))))
theorem laws_FnTabSame.mono : ∀ a0 k, LeO (laws_FnTabSame.f k a0) (laws_FnTabSame.f (k + 1) a0) := by
  intro a0 k
  unfold laws_FnTabSame.f
  repeat' first
      | (with_reducible exact impl_TabSame.mono _ _ _)
      | (with_reducible exact laws_frTab.mono _ _ _)
      | (with_reducible exact spec_DrawTabSame.mono _ _)
      | (with_reducible exact spec_TabSame.mono _ _ _)
      | (with_reducible exact LeO.refl _)
      | (with_reducible exact LeO.none _)
      | (with_reducible refine LeO.ite ?_ ?_)
      | (with_reducible refine LeO.bind ?_ (fun _ => ?_))
      | exact impl_TabSame.mono _ _ _
      | exact laws_frTab.mono _ _ _
      | exact spec_DrawTabSame.mono _ _
      | exact spec_TabSame.mono _ _ _
      | exact LeO.none _
      | refine LeO.ite ?_ ?_
      | refine LeO.bind ?_ (fun _ => ?_)
set_option maxHeartbeats 8000000 in
set_option maxRecDepth 100000 in
theorem laws_FnTabSame.calls (k : Nat) (A0 : Option Addr) (c0 : Nat) (l0 : List Int) (w : World) (hr0 : Kd.C (Kd.int .u8) w A0 l0.length l0) (hc0 : l0.length ≤ c0) (h : laws_FnTabSame.f k l0 = some true) :
    Calls Try.prog 8 #[.slice A0 l0.length c0] w fun e w' => e = .returned (.bool true) ∧ Below w.heap.size w w' := by
  have HR0 := Aside0.mk hr0
  have HC0 := Aside0.mk hc0
  clear hr0 hc0
  have HB := Aside0.mk (Below.refl w.heap.size w)
  have H : (if (l0.length : Int) > 1048576 then (some true) else ((spec_DrawTabSame.f k l0).bind fun bt364 => ((impl_TabSame.f k bt364.1 bt364.2).bind fun t370 => ((laws_frTab.f k bt364.1 bt364.2).bind fun t371 => (if (t370 == t371) = true then ((impl_TabSame.f k bt364.1 bt364.2).bind fun t372 => ((spec_TabSame.f k bt364.1 bt364.2).bind fun t373 => (if (t372 == t373) = true then ((impl_TabSame.f k bt364.2 bt364.1).bind fun t374 => ((laws_frTab.f k bt364.1 bt364.2).bind fun t375 => (if (t374 == t375) = true then ((impl_TabSame.f k (([] : List (S67))) (([] : List (S67)))).bind fun t382 => (some t382)) else (some false)))) else (some false)))) else (some false)))))) = some true := h
  clear h
  by_cases c2 : (l0.length : Int) > 1048576
  · rw [if_pos c2] at H
    have c2b0 : decide (1048576 < (l0.length : Int)) = true := decide_eq_true c2
    have c2b1 : decide (1048576 < l0.length) = true := decide_eq_true (by omega)
    clear c2
    clear H
    go_enter Try.func8, Try.ntmps8
    go_wp2
    go_ret
    exact ⟨by first | rfl | (refine congrArg (fun b_ => Ending.returned (Value.bool b_)) ?_; first | exact hrt_.out | simpa using hrt_.out | (have hq_ := hrt_.out; simp at hq_ ⊢; omega)) | (simp [errW_none, errW_some] <;> rfl) | (simp [*, errW_none, errW_some] <;> rfl), by repeat (first | (with_reducible first | exact HB.out | apply below_alloc | apply pw_below_drewN | apply below_drew1) | exact HB.out)⟩
  · rw [if_neg c2] at H
    have c2b0 : decide (1048576 < (l0.length : Int)) = false := decide_eq_false c2
    have c2b1 : decide (1048576 < l0.length) = false := decide_eq_false (by omega)
    clear c2
    replace H := Option.bind_eq_some_iff.mp H
    obtain ⟨⟨t364, t365⟩, A30, H⟩ := H
    replace H : ((impl_TabSame.f k t364 t365).bind fun t370 => ((laws_frTab.f k t364 t365).bind fun t371 => (if (t370 == t371) = true then ((impl_TabSame.f k t364 t365).bind fun t372 => ((spec_TabSame.f k t364 t365).bind fun t373 => (if (t372 == t373) = true then ((impl_TabSame.f k t365 t364).bind fun t374 => ((laws_frTab.f k t364 t365).bind fun t375 => (if (t374 == t375) = true then ((impl_TabSame.f k (([] : List (S67))) (([] : List (S67)))).bind fun t382 => (some t382)) else (some false)))) else (some false)))) else (some false)))) = some true := H
    have A3 := Aside0.mk A30
    clear A30
    replace H := Option.bind_eq_some_iff.mp H
    obtain ⟨t370, A40, H⟩ := H
    replace H : ((laws_frTab.f k t364 t365).bind fun t371 => (if (t370 == t371) = true then ((impl_TabSame.f k t364 t365).bind fun t372 => ((spec_TabSame.f k t364 t365).bind fun t373 => (if (t372 == t373) = true then ((impl_TabSame.f k t365 t364).bind fun t374 => ((laws_frTab.f k t364 t365).bind fun t375 => (if (t374 == t375) = true then ((impl_TabSame.f k (([] : List (S67))) (([] : List (S67)))).bind fun t382 => (some t382)) else (some false)))) else (some false)))) else (some false))) = some true := H
    have A4 := Aside0.mk A40
    clear A40
    replace H := Option.bind_eq_some_iff.mp H
    obtain ⟨t371, A50, H⟩ := H
    replace H : (if (t370 == t371) = true then ((impl_TabSame.f k t364 t365).bind fun t372 => ((spec_TabSame.f k t364 t365).bind fun t373 => (if (t372 == t373) = true then ((impl_TabSame.f k t365 t364).bind fun t374 => ((laws_frTab.f k t364 t365).bind fun t375 => (if (t374 == t375) = true then ((impl_TabSame.f k (([] : List (S67))) (([] : List (S67)))).bind fun t382 => (some t382)) else (some false)))) else (some false)))) else (some false)) = some true := H
    have A5 := Aside0.mk A50
    clear A50
    by_cases c6 : (t370 == t371) = true
    · rw [if_pos c6] at H
      have c6b0 : (t370 == t371) = true := c6
      (try (have c6b1 : decide (t370 = t371) = true := by simpa using c6))
      (try (have c6b2 : (t370 == t371) = true := by simpa using c6))
      clear c6
      replace H := Option.bind_eq_some_iff.mp H
      obtain ⟨t372, A70, H⟩ := H
      replace H : ((spec_TabSame.f k t364 t365).bind fun t373 => (if (t372 == t373) = true then ((impl_TabSame.f k t365 t364).bind fun t374 => ((laws_frTab.f k t364 t365).bind fun t375 => (if (t374 == t375) = true then ((impl_TabSame.f k (([] : List (S67))) (([] : List (S67)))).bind fun t382 => (some t382)) else (some false)))) else (some false))) = some true := H
      have A7 := Aside0.mk A70
      clear A70
      replace H := Option.bind_eq_some_iff.mp H
      obtain ⟨t373, A80, H⟩ := H
      replace H : (if (t372 == t373) = true then ((impl_TabSame.f k t365 t364).bind fun t374 => ((laws_frTab.f k t364 t365).bind fun t375 => (if (t374 == t375) = true then ((impl_TabSame.f k (([] : List (S67))) (([] : List (S67)))).bind fun t382 => (some t382)) else (some false)))) else (some false)) = some true := H
      have A8 := Aside0.mk A80
      clear A80
      by_cases c9 : (t372 == t373) = true
      · rw [if_pos c9] at H
        have c9b0 : (t372 == t373) = true := c9
        (try (have c9b1 : decide (t372 = t373) = true := by simpa using c9))
        (try (have c9b2 : (t372 == t373) = true := by simpa using c9))
        clear c9
        replace H := Option.bind_eq_some_iff.mp H
        obtain ⟨t374, A100, H⟩ := H
        replace H : ((laws_frTab.f k t364 t365).bind fun t375 => (if (t374 == t375) = true then ((impl_TabSame.f k (([] : List (S67))) (([] : List (S67)))).bind fun t382 => (some t382)) else (some false))) = some true := H
        have A10 := Aside0.mk A100
        clear A100
        replace H := Option.bind_eq_some_iff.mp H
        obtain ⟨t375, A110, H⟩ := H
        replace H : (if (t374 == t375) = true then ((impl_TabSame.f k (([] : List (S67))) (([] : List (S67)))).bind fun t382 => (some t382)) else (some false)) = some true := H
        have A11 := Aside0.mk A110
        clear A110
        by_cases c12 : (t374 == t375) = true
        · rw [if_pos c12] at H
          have c12b0 : (t374 == t375) = true := c12
          (try (have c12b1 : decide (t374 = t375) = true := by simpa using c12))
          (try (have c12b2 : (t374 == t375) = true := by simpa using c12))
          clear c12
          obtain ⟨y376, hy376⟩ : ∃ y_ : List (S67), y_ = (([] : List (S67))) := ⟨_, rfl⟩
          replace H : ((impl_TabSame.f k y376 (([] : List (S67)))).bind fun t382 => (some t382)) = some true := by first | (rw [hy376]; with_reducible exact H) | (have H2_ := (Option.bind_some _ _).symm.trans H; rw [hy376]; with_reducible exact H2_) | (have H2_ := (Option.bind_some _ _).symm.trans H; with_reducible exact H2_) | with_reducible exact H | (rw [hy376]; exact H) | exact H
          have Ny376 := Aside0.mk hy376
          clear hy376
          obtain ⟨y379, hy379⟩ : ∃ y_ : List (S67), y_ = (([] : List (S67))) := ⟨_, rfl⟩
          replace H : ((impl_TabSame.f k y376 y379).bind fun t382 => (some t382)) = some true := by first | (rw [hy379]; with_reducible exact H) | (have H2_ := (Option.bind_some _ _).symm.trans H; rw [hy379]; with_reducible exact H2_) | (have H2_ := (Option.bind_some _ _).symm.trans H; with_reducible exact H2_) | with_reducible exact H | (rw [hy379]; exact H) | exact H
          have Ny379 := Aside0.mk hy379
          clear hy379
          replace H := Option.bind_eq_some_iff.mp H
          obtain ⟨t382, A130, H⟩ := H
          replace H : (some t382) = some true := H
          have A13 := Aside0.mk A130
          clear A130
          have hrt_ := Aside0.mk (Option.some.inj H)
          clear H
          go_enter Try.func8, Try.ntmps8
          go_wp2_with (first | ((with_reducible refine gate_callee (f := 26) rfl ?_); refine goesL_ (some 10) rfl rfl Try.func26 (by kernel_rfl) rfl #[.slice A0 l0.length c0] rfl (by (try simp only [List.map_toArray, List.map_cons, List.map_nil]); first | done | rfl | (simp only [List.length_drop, List.length_take]; rfl)) ?_; (with_reducible refine (spec_DrawTabSame.calls k _ _ l0 t364 t365 _ ?side1 ?side2 A3.out).mono ?_); (case side1 => repeat (first | exact HR0.out | (with_reducible refine Kd.C_alloc ?_ _) | (with_reducible refine Kd.C_drewN ?_ _) | (with_reducible refine Kd.C_drew ?_))); (case side2 => exact HC0.out); rintro e w14 ⟨v366, v368, rfl, ho0, ho1, hb⟩; refine ⟨_, rfl, ?_⟩; have n0_ := Aside0.mk (Kd.R_lower ho0 (below_size (by repeat (first | (with_reducible first | exact HB.out | apply below_alloc | apply pw_below_drewN | apply below_drew1) | exact HB.out)))); have n1_ := Aside0.mk (Kd.R_lower ho1 (below_size (by repeat (first | (with_reducible first | exact HB.out | apply below_alloc | apply pw_below_drewN | apply below_drew1) | exact HB.out)))); have n2_ := Aside0.mk (below_step (by repeat (first | (with_reducible first | exact HB.out | apply below_alloc | apply pw_below_drewN | apply below_drew1) | exact HB.out)) hb); clear HB; have HO367 := n0_; have HO369 := n1_; have HB := n2_; clear n0_ n1_ n2_; (try clear hb); (try clear hb2); (try clear hk); (try clear hi); (try clear ho0); (try clear ho1); obtain ⟨Ao15, co15, eo15⟩ := Kd.R_slice HO367.out; subst eo15; obtain ⟨Ao16, co16, eo16⟩ := Kd.R_slice HO369.out; subst eo16) | ((with_reducible refine gate_callee (f := 27) rfl ?_); refine goesL_ (some 15) rfl rfl Try.func27 (by kernel_rfl) rfl #[.slice Ao15 t364.length co15, .slice Ao16 t365.length co16] rfl (by (try simp only [List.map_toArray, List.map_cons, List.map_nil]); first | done | rfl | (simp only [List.length_drop, List.length_take]; rfl)) ?_; (with_reducible refine (impl_TabSame.calls k _ _ t364 _ _ t365 t370 _ ?side1 ?side2 ?side3 ?side4 A4.out).mono ?_); (case side1 => repeat (first | exact (Kd.R_reads' HO367.out).2.2 | (with_reducible refine Kd.C_alloc ?_ _) | (with_reducible refine Kd.C_drewN ?_ _) | (with_reducible refine Kd.C_drew ?_))); (case side2 => exact (Kd.R_reads' HO367.out).2.1); (case side3 => repeat (first | exact (Kd.R_reads' HO369.out).2.2 | (with_reducible refine Kd.C_alloc ?_ _) | (with_reducible refine Kd.C_drewN ?_ _) | (with_reducible refine Kd.C_drew ?_))); (case side4 => exact (Kd.R_reads' HO369.out).2.1); rintro e w' ⟨rfl, ⟨nd, rfl⟩⟩; refine ⟨_, rfl, ?_⟩) | ((with_reducible refine gate_callee (f := 28) rfl ?_); refine goesL_ (some 18) rfl rfl Try.func28 (by kernel_rfl) rfl #[.slice Ao15 t364.length co15, .slice Ao16 t365.length co16] rfl (by (try simp only [List.map_toArray, List.map_cons, List.map_nil]); first | done | rfl | (simp only [List.length_drop, List.length_take]; rfl)) ?_; (with_reducible refine (laws_frTab.calls k _ _ t364 _ _ t365 t371 _ ?side1 ?side2 ?side3 ?side4 A5.out).mono ?_); (case side1 => repeat (first | exact (Kd.R_reads' HO367.out).2.2 | (with_reducible refine Kd.C_alloc ?_ _) | (with_reducible refine Kd.C_drewN ?_ _) | (with_reducible refine Kd.C_drew ?_))); (case side2 => exact (Kd.R_reads' HO367.out).2.1); (case side3 => repeat (first | exact (Kd.R_reads' HO369.out).2.2 | (with_reducible refine Kd.C_alloc ?_ _) | (with_reducible refine Kd.C_drewN ?_ _) | (with_reducible refine Kd.C_drew ?_))); (case side4 => exact (Kd.R_reads' HO369.out).2.1); rintro e w' ⟨rfl, ⟨nd, rfl⟩⟩; refine ⟨_, rfl, ?_⟩) | (go_at_call 27; (with_reducible refine (impl_TabSame.calls k _ _ t364 _ _ t365 t372 _ ?side1 ?side2 ?side3 ?side4 A7.out).mono ?_); (case side1 => repeat (first | exact (Kd.R_reads' HO367.out).2.2 | (with_reducible refine Kd.C_alloc ?_ _) | (with_reducible refine Kd.C_drewN ?_ _) | (with_reducible refine Kd.C_drew ?_))); (case side2 => exact (Kd.R_reads' HO367.out).2.1); (case side3 => repeat (first | exact (Kd.R_reads' HO369.out).2.2 | (with_reducible refine Kd.C_alloc ?_ _) | (with_reducible refine Kd.C_drewN ?_ _) | (with_reducible refine Kd.C_drew ?_))); (case side4 => exact (Kd.R_reads' HO369.out).2.1); rintro e w' ⟨rfl, ⟨nd, rfl⟩⟩) | (go_at_call 29; (with_reducible refine (spec_TabSame.calls k _ _ t364 _ _ t365 t373 _ ?side1 ?side2 ?side3 ?side4 A8.out).mono ?_); (case side1 => repeat (first | exact (Kd.R_reads' HO367.out).2.2 | (with_reducible refine Kd.C_alloc ?_ _) | (with_reducible refine Kd.C_drewN ?_ _) | (with_reducible refine Kd.C_drew ?_))); (case side2 => exact (Kd.R_reads' HO367.out).2.1); (case side3 => repeat (first | exact (Kd.R_reads' HO369.out).2.2 | (with_reducible refine Kd.C_alloc ?_ _) | (with_reducible refine Kd.C_drewN ?_ _) | (with_reducible refine Kd.C_drew ?_))); (case side4 => exact (Kd.R_reads' HO369.out).2.1); rintro e w' ⟨rfl, ⟨nd, rfl⟩⟩) | (go_at_call 27; (with_reducible refine (impl_TabSame.calls k _ _ t365 _ _ t364 t374 _ ?side1 ?side2 ?side3 ?side4 A10.out).mono ?_); (case side1 => repeat (first | exact (Kd.R_reads' HO369.out).2.2 | (with_reducible refine Kd.C_alloc ?_ _) | (with_reducible refine Kd.C_drewN ?_ _) | (with_reducible refine Kd.C_drew ?_))); (case side2 => exact (Kd.R_reads' HO369.out).2.1); (case side3 => repeat (first | exact (Kd.R_reads' HO367.out).2.2 | (with_reducible refine Kd.C_alloc ?_ _) | (with_reducible refine Kd.C_drewN ?_ _) | (with_reducible refine Kd.C_drew ?_))); (case side4 => exact (Kd.R_reads' HO367.out).2.1); rintro e w' ⟨rfl, ⟨nd, rfl⟩⟩) | (go_at_call 28; (with_reducible refine (laws_frTab.calls k _ _ t364 _ _ t365 t375 _ ?side1 ?side2 ?side3 ?side4 A11.out).mono ?_); (case side1 => repeat (first | exact (Kd.R_reads' HO367.out).2.2 | (with_reducible refine Kd.C_alloc ?_ _) | (with_reducible refine Kd.C_drewN ?_ _) | (with_reducible refine Kd.C_drew ?_))); (case side2 => exact (Kd.R_reads' HO367.out).2.1); (case side3 => repeat (first | exact (Kd.R_reads' HO369.out).2.2 | (with_reducible refine Kd.C_alloc ?_ _) | (with_reducible refine Kd.C_drewN ?_ _) | (with_reducible refine Kd.C_drew ?_))); (case side4 => exact (Kd.R_reads' HO369.out).2.1); rintro e w' ⟨rfl, ⟨nd, rfl⟩⟩) | ((with_reducible refine gate_dst (N := 39) rfl ?_); (try (refine gate_guard (by rfl) ?_; dsimp only)); refine Kd.R_lit k67 _ 67 ?hg (N := 39) ?hd (xs := ([] : List (S67))) (inner := []) (ok := fun _ => True) (okp := fun _ => True) ?hr ?hp (fun _ hk => hk) trivial (Below.refl _ _) (Nat.le_refl _) (by simp) ?_; (case hd => rfl); (case hg => rfl); (case hr => first | (go_simp; done) | (go_simp; rfl)); (case hp => exact (Reps.none _ _)); intro v377 w17 ho18 hb hg_ hnew_; clear hg_ hnew_; (first | rw [← Ny376.out] at ho18 | (simp only [Int.reduceToNat] at ho18; rw [← Ny376.out] at ho18)); have n0_ := Aside0.mk (Kd.R_elder' (by (with_reducible repeat (first | apply Kd.R_alloc | apply Kd.R_drewN | apply Kd.R_drew)); exact HO367.out) (Kd.R_base ho18) hb); have n1_ := Aside0.mk (Kd.R_elder' (by (with_reducible repeat (first | apply Kd.R_alloc | apply Kd.R_drewN | apply Kd.R_drew)); exact HO369.out) (Kd.R_base ho18) hb); have n2_ := Aside0.mk (Kd.R_lower (Kd.R_new' (Kd.R_new' ho18 (Kd.R_lt (by (with_reducible repeat (first | apply Kd.R_alloc | apply Kd.R_drewN | apply Kd.R_drew)); exact HO367.out))) (Kd.R_lt (by (with_reducible repeat (first | apply Kd.R_alloc | apply Kd.R_drewN | apply Kd.R_drew)); exact HO369.out))) (below_size (by repeat (first | (with_reducible first | exact HB.out | apply below_alloc | apply pw_below_drewN | apply below_drew1) | exact HB.out)))); have n3_ := Aside0.mk (below_step (by repeat (first | (with_reducible first | exact HB.out | apply below_alloc | apply pw_below_drewN | apply below_drew1) | exact HB.out)) hb); clear HO367; clear HO369; clear HB; have HO367 := n0_; have HO369 := n1_; have HO378 := n2_; have HB := n3_; clear n0_ n1_ n2_ n3_; clear hb ho18) | ((with_reducible refine gate_dst (N := 40) rfl ?_); (try (refine gate_guard (by rfl) ?_; dsimp only)); refine Kd.R_lit k67 _ 67 ?hg (N := 40) ?hd (xs := ([] : List (S67))) (inner := []) (ok := fun _ => True) (okp := fun _ => True) ?hr ?hp (fun _ hk => hk) trivial (Below.refl _ _) (Nat.le_refl _) (by simp) ?_; (case hd => rfl); (case hg => rfl); (case hr => first | (go_simp; done) | (go_simp; rfl)); (case hp => exact (Reps.none _ _)); intro v380 w19 ho20 hb hg_ hnew_; clear hg_ hnew_; (first | rw [← Ny379.out] at ho20 | (simp only [Int.reduceToNat] at ho20; rw [← Ny379.out] at ho20)); have n0_ := Aside0.mk (Kd.R_elder' (by (with_reducible repeat (first | apply Kd.R_alloc | apply Kd.R_drewN | apply Kd.R_drew)); exact HO367.out) (Kd.R_base ho20) hb); have n1_ := Aside0.mk (Kd.R_elder' (by (with_reducible repeat (first | apply Kd.R_alloc | apply Kd.R_drewN | apply Kd.R_drew)); exact HO369.out) (Kd.R_base ho20) hb); have n2_ := Aside0.mk (Kd.R_elder' (by (with_reducible repeat (first | apply Kd.R_alloc | apply Kd.R_drewN | apply Kd.R_drew)); exact HO378.out) (Kd.R_base ho20) hb); have n3_ := Aside0.mk (Kd.R_lower (Kd.R_new' (Kd.R_new' (Kd.R_new' ho20 (Kd.R_lt (by (with_reducible repeat (first | apply Kd.R_alloc | apply Kd.R_drewN | apply Kd.R_drew)); exact HO367.out))) (Kd.R_lt (by (with_reducible repeat (first | apply Kd.R_alloc | apply Kd.R_drewN | apply Kd.R_drew)); exact HO369.out))) (Kd.R_lt (by (with_reducible repeat (first | apply Kd.R_alloc | apply Kd.R_drewN | apply Kd.R_drew)); exact HO378.out))) (below_size (by repeat (first | (with_reducible first | exact HB.out | apply below_alloc | apply pw_below_drewN | apply below_drew1) | exact HB.out)))); have n4_ := Aside0.mk (below_step (by repeat (first | (with_reducible first | exact HB.out | apply below_alloc | apply pw_below_drewN | apply below_drew1) | exact HB.out)) hb); clear HO367; clear HO369; clear HO378; clear HB; have HO367 := n0_; have HO369 := n1_; have HO378 := n2_; have HO381 := n3_; have HB := n4_; clear n0_ n1_ n2_ n3_ n4_; clear hb ho20; obtain ⟨Ao21, co21, eo21⟩ := Kd.R_slice HO378.out; subst eo21; obtain ⟨Ao22, co22, eo22⟩ := Kd.R_slice HO381.out; subst eo22) | (go_at_call 27; (with_reducible refine (impl_TabSame.calls k _ _ y376 _ _ y379 t382 _ ?side1 ?side2 ?side3 ?side4 A13.out).mono ?_); (case side1 => repeat (first | exact (Kd.R_reads' HO378.out).2.2 | (with_reducible refine Kd.C_alloc ?_ _) | (with_reducible refine Kd.C_drewN ?_ _) | (with_reducible refine Kd.C_drew ?_))); (case side2 => exact (Kd.R_reads' HO378.out).2.1); (case side3 => repeat (first | exact (Kd.R_reads' HO381.out).2.2 | (with_reducible refine Kd.C_alloc ?_ _) | (with_reducible refine Kd.C_drewN ?_ _) | (with_reducible refine Kd.C_drew ?_))); (case side4 => exact (Kd.R_reads' HO381.out).2.1); rintro e w' ⟨rfl, ⟨nd, rfl⟩⟩))
          go_ret
          exact ⟨by first | rfl | (refine congrArg (fun b_ => Ending.returned (Value.bool b_)) ?_; first | exact hrt_.out | simpa using hrt_.out | (have hq_ := hrt_.out; simp at hq_ ⊢; omega)) | (simp [errW_none, errW_some] <;> rfl) | (simp [*, errW_none, errW_some] <;> rfl), by repeat (first | (with_reducible first | exact HB.out | apply below_alloc | apply pw_below_drewN | apply below_drew1) | exact HB.out)⟩
        · rw [if_neg c12] at H
          have c12b0 : (t374 == t375) = false := by simpa using c12
          (try (have c12b1 : decide (t374 = t375) = false := by simpa using c12))
          (try (have c12b2 : (t374 == t375) = false := by simpa using c12))
          (try (have c12b3 : ¬ (t374 = t375) := by simpa using c12))
          clear c12
          exact absurd H (by simp)
      · rw [if_neg c9] at H
        have c9b0 : (t372 == t373) = false := by simpa using c9
        (try (have c9b1 : decide (t372 = t373) = false := by simpa using c9))
        (try (have c9b2 : (t372 == t373) = false := by simpa using c9))
        (try (have c9b3 : ¬ (t372 = t373) := by simpa using c9))
        clear c9
        exact absurd H (by simp)
    · rw [if_neg c6] at H
      have c6b0 : (t370 == t371) = false := by simpa using c6
      (try (have c6b1 : decide (t370 = t371) = false := by simpa using c6))
      (try (have c6b2 : (t370 == t371) = false := by simpa using c6))
      (try (have c6b3 : ¬ (t370 = t371) := by simpa using c6))
      clear c6
      exact absurd H (by simp)

/-- THE ONE PURE STATEMENT of laws_FnTabSame: yours. -/
def laws_FnTabSame.Pure : Prop := ∀ (l0 : List Int), l0.length ≤ maxLen → l0.length * 1 ≤ 140737488351232 → (∀ x ∈ l0, (Lit.int .u8 x).wf = true) → ∃ k, laws_FnTabSame.f k l0 = some true
theorem laws_FnTabSame.walk (P : laws_FnTabSame.Pure) (a0 : Option Addr) (len0 cap0 : Nat) (z0 : List Int) (w : World) (w0 : (a0 = none ∧ len0 = 0 ∧ cap0 = 0 ∧ z0 = []) ∨ ∃ x, a0 = some x ∧ len0 ≤ cap0 ∧ cap0 ≤ maxLen ∧ z0.length = cap0 ∧ (∀ i, i < z0.length → w.cell? (x.add i) = some (.int .u8 (z0.getD i 0))) ∧ ∀ n ∈ z0, (Lit.int .u8 n).wf = true) (y0 : len0 * 1 ≤ 140737488351232) :
    Calls Try.prog 8 #[.slice a0 len0 cap0] w fun e w' => e = .returned (.bool true) ∧ Below w.heap.size w w' := by
  obtain ⟨l0, rfl, hr0, hm0, hw0, hc0⟩ := ReadsInt.ofRowC w0
  obtain ⟨k, h⟩ := P l0 hm0 y0 hw0
  refine (laws_FnTabSame.calls k _ _ l0 w (Kd.C_of_reads (d := (0 : Int)) (h1 := fun _ => rfl) hr0) hc0 h).mono ?_
  rintro e w' ⟨rfl, hd⟩
  exact ⟨rfl, hd⟩

end Go.Proofs.Ytjclmjmbhhlbcaa.PFnTabSame
