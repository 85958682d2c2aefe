/- Functions of the program as Lean functions, with their contracts, written by a program of mine over the kit's printer and in part by hand. No condition of its own. -/
import Derived.Test.YtofhaglklhmilaaQFnExactPanSoundx0
import Derived.Test.YtofhaglklhmilaaQFnExactPanSoundx5
import Derived.Test.YtofhaglklhmilaaQFnExactPanSoundx6
namespace Go.Proofs.Ytofhaglklhmilaa.PFnExactPanSound
open Go.RowKit Go.Proofs.YtofhaglklhmilaaW.PrintWords Go.Proofs.YtofhaglklhmilaaW.PrintLast Go.Proofs.YtofhaglklhmilaaW.PrintMore
attribute [local go_sem] max2_int min2_int max_two min_two max_three min_three max_four min_four   -- for this text's walks alone
set_option linter.unusedVariables false
set_option linter.unusedSimpArgs false

/-! ### impl_PanSound: function 50 -/
def impl_PanSound.l0 : Nat → List (S97) → List (S97) → Int → Int → Option (Bool)
  | 0, _, _, _, _ => none
  | k + 1, x0, x6, x7, x8 => if x8 < x7 then (if 0 ≤ x8 then (if x8 < (x6.length : Int) then (if x8 ≤ (x0.length : Int) then ((impl_PanOf.f k (x0.take (x8 : Int).toNat) ((rd_T97 x6 x8).f0) ((rd_T97 x6 x8).f1.f0) ((rd_T97 x6 x8).f1.f1)).bind fun t188 => ((impl_PanOk.f k ((rd_T97 x6 x8).f0) ((rd_T97 x6 x8).f1.f0) ((rd_T97 x6 x8).f1.f1) ((rd_T97 x6 x8).f2) ((rd_T97 x6 x8).f3) ((rd_T97 x6 x8).f4.f0) ((rd_T97 x6 x8).f4.f1) ((rd_T97 x6 x8).f4.f2) ((rd_T97 x6 x8).f4.f3)).bind fun t191 => (if t191 = true then (if ((rd_T97 x6 x8).f2) = (t188.length : Int) then ((pan_gone.f t188).bind fun t192 => (if t192 = true then (some false) else (impl_PanSound.l0 k x0 x6 x7 (wrap64 (x8 + 1))))) else (some false)) else (some false)))) else (none)) else (none)) else (none)) else (some true)
def impl_PanSound.f (k : Nat) (l0 : List (S97)) : Option (Bool) := impl_PanSound.l0 k l0 l0 (l0.length : Int) 0
theorem impl_PanSound.mono_l : ∀ k, (∀ y0 y1 y2 y3, LeO (impl_PanSound.l0 k y0 y1 y2 y3) (impl_PanSound.l0 (k + 1) y0 y1 y2 y3))
  | 0 => fun _ _ _ _ r h => by simp [impl_PanSound.l0] at h
  | k + 1 => by
    have ih0 := impl_PanSound.mono_l k
    · intro y0 y1 y2 y3
      unfold impl_PanSound.l0
      repeat' first
      | (with_reducible exact ih0 _ _ _ _)
      | (with_reducible exact impl_PanOf.mono _ _ _ _ _)
      | (with_reducible exact impl_PanOk.mono _ _ _ _ _ _ _ _ _ _)
      | (with_reducible exact LeO.refl _)
      | (with_reducible exact LeO.none _)
      | (with_reducible refine LeO.ite ?_ ?_)
      | (with_reducible refine LeO.bind ?_ (fun _ => ?_))
      | exact ih0 _ _ _ _
      | exact impl_PanOf.mono _ _ _ _ _
      | exact impl_PanOk.mono _ _ _ _ _ _ _ _ _ _
      | exact LeO.none _
      | refine LeO.ite ?_ ?_
      | refine LeO.bind ?_ (fun _ => ?_)
theorem impl_PanSound.mono : ∀ a0 k, LeO (impl_PanSound.f k a0) (impl_PanSound.f (k + 1) a0) := by
  intro a0 k
  have ih0 := impl_PanSound.mono_l k
  unfold impl_PanSound.f
  repeat' first
      | (with_reducible exact ih0 _ _ _ _)
      | (with_reducible exact impl_PanOf.mono _ _ _ _ _)
      | (with_reducible exact impl_PanOk.mono _ _ _ _ _ _ _ _ _ _)
      | (with_reducible exact LeO.refl _)
      | (with_reducible exact LeO.none _)
      | (with_reducible refine LeO.ite ?_ ?_)
      | (with_reducible refine LeO.bind ?_ (fun _ => ?_))
      | exact ih0 _ _ _ _
      | exact impl_PanOf.mono _ _ _ _ _
      | exact impl_PanOk.mono _ _ _ _ _ _ _ _ _ _
      | exact LeO.none _
      | refine LeO.ite ?_ ?_
      | refine LeO.bind ?_ (fun _ => ?_)
def impl_PanSound.T4 : Bool × List (List Nat × List Nat) := (true, [([], []), ([], []), ([0, 1], [0, 1]), ([], []), ([3], [3]), ([], []), ([5], [5]), ([2, 4, 6], [2, 4, 6]), ([7, 7, 0, 1, 2, 3, 4, 5, 6, 7], [7])])
def impl_PanSound.B4 : List Nat := [0, 0, 3, 0, 8, 0, 32, 127, 255]
theorem impl_PanSound.tab4 : rtab .any (opsOf Try.f50 4) = impl_PanSound.T4 := by kernel_rfl
theorem impl_PanSound.bits4 : waitsOk impl_PanSound.T4.2 impl_PanSound.B4 = true := by kernel_rfl
set_option maxHeartbeats 8000000 in
set_option maxRecDepth 100000 in
theorem impl_PanSound.calls (k : Nat) (A0 : Option Addr) (c0 : Nat) (l0 : List (S97)) (r : Bool) (w : World) (hr0 : Kd.C k97 w A0 l0.length l0) (hc0 : l0.length ≤ c0) (h : impl_PanSound.f k l0 = some r) :
    Calls Try.prog 50 #[.slice A0 l0.length c0] w fun e w' => e = .returned (.bool r) ∧ Below w.heap.size w w' := by
  have hu97 := Try.underlying97
  have hu36 := Try.underlying36
  have HR0 := Aside0.mk hr0
  have HC0 := Aside0.mk hc0
  clear hr0 hc0
  have HB := Aside0.mk (Below.refl w.heap.size w)
  have H : (impl_PanSound.l0 k l0 l0 (l0.length : Int) 0) = some r := h
  clear h
  have H' := Aside0.mk H
  clear H
  go_enter Try.func50, Try.ntmps50
  go_wp2
  go_loopg [8] k (fun kq v8 w' => ∃ (x8_1 : Int), v8 = .int .i64 x8_1 ∧ Aside0 (impl_PanSound.l0 kq l0 l0 (l0.length : Int) x8_1 = some r) ∧ Aside0 (kq ≤ k) ∧ Aside0 (Below w.heap.size w w'))
  case atStart => exact ⟨(0), (by first | rfl | (simp; done) | (simp [*]; done)), H', ⟨Nat.le_refl _⟩, ⟨by repeat (first | (with_reducible first | exact HB.out | apply below_alloc | apply pw_below_drewN | apply below_drew1) | exact HB.out)⟩⟩
  case round =>
    clear H'
    obtain ⟨x8_1, rfl, HA, HK1, HB⟩ := hrel
    cases gk with
    | zero => exact absurd HA.out (by simp [impl_PanSound.l0])
    | succ k1 =>
      have H := HA.out
      clear HA
      simp only [impl_PanSound.l0] at H
      by_cases c2 : x8_1 < (l0.length : Int)
      · rw [if_pos c2] at H
        have c2b0 : decide (x8_1 < (l0.length : Int)) = true := decide_eq_true c2
        clear c2
        by_cases c3 : 0 ≤ x8_1
        · rw [if_pos c3] at H
          have c3b0 : decide (0 ≤ x8_1) = true := decide_eq_true c3
          clear c3
          by_cases c4 : x8_1 < (l0.length : Int)
          · rw [if_pos c4] at H
            have c4b0 : decide (x8_1 < (l0.length : Int)) = true := decide_eq_true c4
            clear c4
            have c5b0 := eq_true (of_decide_eq_true (by first | (with_reducible assumption) | assumption) : 0 ≤ x8_1)
            by_cases c6 : x8_1 ≤ (l0.length : Int)
            · rw [if_pos c6] at H
              have c6b0 := eq_true c6
              have c6b1 : decide (x8_1 ≤ (l0.length : Int)) = true := decide_eq_true c6
              clear c6
              obtain ⟨y184, hy184⟩ : ∃ y_ : List (S97), y_ = (l0.take (x8_1 : Int).toNat) := ⟨_, rfl⟩
              replace H : ((impl_PanOf.f k1 y184 ((rd_T97 l0 x8_1).f0) ((rd_T97 l0 x8_1).f1.f0) ((rd_T97 l0 x8_1).f1.f1)).bind fun t188 => ((impl_PanOk.f k1 ((rd_T97 l0 x8_1).f0) ((rd_T97 l0 x8_1).f1.f0) ((rd_T97 l0 x8_1).f1.f1) ((rd_T97 l0 x8_1).f2) ((rd_T97 l0 x8_1).f3) ((rd_T97 l0 x8_1).f4.f0) ((rd_T97 l0 x8_1).f4.f1) ((rd_T97 l0 x8_1).f4.f2) ((rd_T97 l0 x8_1).f4.f3)).bind fun t191 => (if t191 = true then (if ((rd_T97 l0 x8_1).f2) = (t188.length : Int) then ((pan_gone.f t188).bind fun t192 => (if t192 = true then (some false) else (impl_PanSound.l0 k1 l0 l0 (l0.length : Int) (wrap64 (x8_1 + 1))))) else (some false)) else (some false)))) = some r := by first | (rw [hy184]; with_reducible exact H) | (have H2_ := (Option.bind_some _ _).symm.trans H; rw [hy184]; with_reducible exact H2_) | (have H2_ := (Option.bind_some _ _).symm.trans H; with_reducible exact H2_) | with_reducible exact H | (rw [hy184]; exact H) | exact H
              have Ny184 := Aside0.mk hy184
              clear hy184
              replace H := Option.bind_eq_some_iff.mp H
              obtain ⟨t188, A70, H⟩ := H
              replace H : ((impl_PanOk.f k1 ((rd_T97 l0 x8_1).f0) ((rd_T97 l0 x8_1).f1.f0) ((rd_T97 l0 x8_1).f1.f1) ((rd_T97 l0 x8_1).f2) ((rd_T97 l0 x8_1).f3) ((rd_T97 l0 x8_1).f4.f0) ((rd_T97 l0 x8_1).f4.f1) ((rd_T97 l0 x8_1).f4.f2) ((rd_T97 l0 x8_1).f4.f3)).bind fun t191 => (if t191 = true then (if ((rd_T97 l0 x8_1).f2) = (t188.length : Int) then ((pan_gone.f t188).bind fun t192 => (if t192 = true then (some false) else (impl_PanSound.l0 k1 l0 l0 (l0.length : Int) (wrap64 (x8_1 + 1))))) else (some false)) else (some false))) = some r := H
              have A7 := Aside0.mk A70
              clear A70
              replace H := Option.bind_eq_some_iff.mp H
              obtain ⟨t191, A80, H⟩ := H
              replace H : (if t191 = true then (if ((rd_T97 l0 x8_1).f2) = (t188.length : Int) then ((pan_gone.f t188).bind fun t192 => (if t192 = true then (some false) else (impl_PanSound.l0 k1 l0 l0 (l0.length : Int) (wrap64 (x8_1 + 1))))) else (some false)) else (some false)) = some r := H
              have A8 := Aside0.mk A80
              clear A80
              by_cases c9 : t191 = true
              · subst c9
                have H1 : (if ((rd_T97 l0 x8_1).f2) = (t188.length : Int) then ((pan_gone.f t188).bind fun t192 => (if t192 = true then (some false) else (impl_PanSound.l0 k1 l0 l0 (l0.length : Int) (wrap64 (x8_1 + 1))))) else (some false)) = some r := by rw [if_pos rfl] at H; exact H
                clear H
                have H := H1
                clear H1
                by_cases c10 : ((rd_T97 l0 x8_1).f2) = (t188.length : Int)
                · rw [if_pos c10] at H
                  have c10b0 : (((rd_T97 l0 x8_1).f2) == (t188.length : Int)) = true := beq_iff_eq.mpr c10
                  have c10b1 : (((rd_T97 l0 x8_1).f2) != (t188.length : Int)) = false := bne_eq_false_iff_eq.mpr c10
                  clear c10
                  replace H := Option.bind_eq_some_iff.mp H
                  obtain ⟨t192, A110, H⟩ := H
                  replace H : (if t192 = true then (some false) else (impl_PanSound.l0 k1 l0 l0 (l0.length : Int) (wrap64 (x8_1 + 1)))) = some r := H
                  have A11 := Aside0.mk A110
                  clear A110
                  by_cases c12 : t192 = true
                  · subst c12
                    have H1 : (some false) = some r := by rw [if_pos rfl] at H; exact H
                    clear H
                    have H := H1
                    clear H1
                    obtain rfl := Option.some.inj H
                    have p182 : 0 ≤ (x8_1 : Int) := of_decide_eq_true (by first | (with_reducible assumption) | assumption)
                    have q182 : x8_1 < (l0.length : Int) := of_decide_eq_true (by first | (with_reducible assumption) | assumption)
                    obtain ⟨ad182, e182, hx182_0, hx182_1, hx182_2, hx182_3, hx182_4, hx182_5, hx182_6, hx182_7, hx182_8⟩ := at_T97 HR0.out x8_1 p182 q182
                    cases e182
                    replace hx182_0 := (HB.out.cell (World.block_lt_of_cell? w _ hx182_0)).trans hx182_0
                    replace hx182_1 := (HB.out.cell (World.block_lt_of_cell? w _ hx182_1)).trans hx182_1
                    replace hx182_2 := (HB.out.cell (World.block_lt_of_cell? w _ hx182_2)).trans hx182_2
                    replace hx182_3 := (HB.out.cell (World.block_lt_of_cell? w _ hx182_3)).trans hx182_3
                    replace hx182_4 := (HB.out.cell (World.block_lt_of_cell? w _ hx182_4)).trans hx182_4
                    replace hx182_5 := (HB.out.cell (World.block_lt_of_cell? w _ hx182_5)).trans hx182_5
                    replace hx182_6 := (HB.out.cell (World.block_lt_of_cell? w _ hx182_6)).trans hx182_6
                    replace hx182_7 := (HB.out.cell (World.block_lt_of_cell? w _ hx182_7)).trans hx182_7
                    replace hx182_8 := (HB.out.cell (World.block_lt_of_cell? w _ hx182_8)).trans hx182_8
                    replace p182 := eq_true p182
                    replace q182 := eq_true q182
                    try go_wp2_with (first | ((with_reducible refine gate_dst (N := 4) rfl ?_); (try (refine gate_guard (by rfl) ?_; dsimp only)); refine box_event ?hg (N := 4) ?hd (cs := #[.int .i64 0, .int .i64 0, .int .i64 0, .int .i64 0, .int .i64 0, .int .i64 0, .int .i64 0, .int .i64 0, .int .i64 0]) (t := 97) ?hr ?_; (case hd => rfl); (case hg => rfl); (case hr => first | (go_simp; done) | (go_simp; rfl)); intro gb183 hg w13 hbox hb; have n0_ := Aside0.mk (below_step (by repeat (first | (with_reducible first | exact HB.out | apply below_alloc | apply pw_below_drewN | apply below_drew1) | exact HB.out)) hb); have n1_ := Aside0.mk (hbox); have n2_ := Aside0.mk ((by rw [hg]; exact (below_size (by repeat (first | (with_reducible first | exact HB.out | apply below_alloc | apply pw_below_drewN | apply below_drew1) | exact HB.out))) : w.heap.size ≤ gb183)); have n3_ := Aside0.mk ((by rw [hg]; exact (below_size (by repeat (first | (with_reducible first | exact HB.out | apply below_alloc | apply pw_below_drewN | apply below_drew1) | exact HB.out))) : w.heap.size ≤ gb183)); clear HB; have HB := n0_; have BK183 := n1_; have GW183 := n2_; have GE183 := n3_; clear n0_ n1_ n2_ n3_; clear hb hbox hg; have hcz14_0 : w13.cell? ⟨gb183, 0, none⟩ = some (.int .i64 0) := (blk_cell BK183.out 0).trans rfl; have hcz14_1 : w13.cell? ⟨gb183, 1, none⟩ = some (.int .i64 0) := (blk_cell BK183.out 1).trans rfl; have hcz14_2 : w13.cell? ⟨gb183, 2, none⟩ = some (.int .i64 0) := (blk_cell BK183.out 2).trans rfl; have hcz14_3 : w13.cell? ⟨gb183, 3, none⟩ = some (.int .i64 0) := (blk_cell BK183.out 3).trans rfl; have hcz14_4 : w13.cell? ⟨gb183, 4, none⟩ = some (.int .i64 0) := (blk_cell BK183.out 4).trans rfl; have hcz14_5 : w13.cell? ⟨gb183, 5, none⟩ = some (.int .i64 0) := (blk_cell BK183.out 5).trans rfl; have hcz14_6 : w13.cell? ⟨gb183, 6, none⟩ = some (.int .i64 0) := (blk_cell BK183.out 6).trans rfl; have hcz14_7 : w13.cell? ⟨gb183, 7, none⟩ = some (.int .i64 0) := (blk_cell BK183.out 7).trans rfl; have hcz14_8 : w13.cell? ⟨gb183, 8, none⟩ = some (.int .i64 0) := (blk_cell BK183.out 8).trans rfl; have hfz14_0 := blk_frozen BK183.out 0; have hfz14_1 := blk_frozen BK183.out 1; have hfz14_2 := blk_frozen BK183.out 2; have hfz14_3 := blk_frozen BK183.out 3; have hfz14_4 := blk_frozen BK183.out 4; have hfz14_5 := blk_frozen BK183.out 5; have hfz14_6 := blk_frozen BK183.out 6; have hfz14_7 := blk_frozen BK183.out 7; have hfz14_8 := blk_frozen BK183.out 8))
                    have n0_ : Aside0 ((((((((((w13.setCell ⟨gb183, 0, none⟩ (.int .i64 ((rd_T97 l0 x8_1).f0))).setCell ⟨gb183, 1, none⟩ (.int .i64 ((rd_T97 l0 x8_1).f1.f0))).setCell ⟨gb183, 2, none⟩ (.int .i64 ((rd_T97 l0 x8_1).f1.f1))).setCell ⟨gb183, 3, none⟩ (.int .i64 ((rd_T97 l0 x8_1).f2))).setCell ⟨gb183, 4, none⟩ (.int .i64 ((rd_T97 l0 x8_1).f3))).setCell ⟨gb183, 5, none⟩ (.int .i64 ((rd_T97 l0 x8_1).f4.f0))).setCell ⟨gb183, 6, none⟩ (.int .i64 ((rd_T97 l0 x8_1).f4.f1))).setCell ⟨gb183, 7, none⟩ (.int .i64 ((rd_T97 l0 x8_1).f4.f2))).setCell ⟨gb183, 8, none⟩ (.int .i64 ((rd_T97 l0 x8_1).f4.f3))).heap[gb183]? = some (.cells #[.int .i64 ((rd_T97 l0 x8_1).f0), .int .i64 ((rd_T97 l0 x8_1).f1.f0), .int .i64 ((rd_T97 l0 x8_1).f1.f1), .int .i64 ((rd_T97 l0 x8_1).f2), .int .i64 ((rd_T97 l0 x8_1).f3), .int .i64 ((rd_T97 l0 x8_1).f4.f0), .int .i64 ((rd_T97 l0 x8_1).f4.f1), .int .i64 ((rd_T97 l0 x8_1).f4.f2), .int .i64 ((rd_T97 l0 x8_1).f4.f3)] 97 (0, 0))) := ⟨by (with_reducible repeat (first | refine blk_drewN ?_ _ | refine blk_drew ?_ | refine blk_alloc ?_ _)); refine blk_put (cs := #[.int .i64 ((rd_T97 l0 x8_1).f0), .int .i64 ((rd_T97 l0 x8_1).f1.f0), .int .i64 ((rd_T97 l0 x8_1).f1.f1), .int .i64 ((rd_T97 l0 x8_1).f2), .int .i64 ((rd_T97 l0 x8_1).f3), .int .i64 ((rd_T97 l0 x8_1).f4.f0), .int .i64 ((rd_T97 l0 x8_1).f4.f1), .int .i64 ((rd_T97 l0 x8_1).f4.f2), .int .i64 0]) ?_ 8 _ rfl; (with_reducible repeat (first | refine blk_drewN ?_ _ | refine blk_drew ?_ | refine blk_alloc ?_ _)); refine blk_put (cs := #[.int .i64 ((rd_T97 l0 x8_1).f0), .int .i64 ((rd_T97 l0 x8_1).f1.f0), .int .i64 ((rd_T97 l0 x8_1).f1.f1), .int .i64 ((rd_T97 l0 x8_1).f2), .int .i64 ((rd_T97 l0 x8_1).f3), .int .i64 ((rd_T97 l0 x8_1).f4.f0), .int .i64 ((rd_T97 l0 x8_1).f4.f1), .int .i64 0, .int .i64 0]) ?_ 7 _ rfl; (with_reducible repeat (first | refine blk_drewN ?_ _ | refine blk_drew ?_ | refine blk_alloc ?_ _)); refine blk_put (cs := #[.int .i64 ((rd_T97 l0 x8_1).f0), .int .i64 ((rd_T97 l0 x8_1).f1.f0), .int .i64 ((rd_T97 l0 x8_1).f1.f1), .int .i64 ((rd_T97 l0 x8_1).f2), .int .i64 ((rd_T97 l0 x8_1).f3), .int .i64 ((rd_T97 l0 x8_1).f4.f0), .int .i64 0, .int .i64 0, .int .i64 0]) ?_ 6 _ rfl; (with_reducible repeat (first | refine blk_drewN ?_ _ | refine blk_drew ?_ | refine blk_alloc ?_ _)); refine blk_put (cs := #[.int .i64 ((rd_T97 l0 x8_1).f0), .int .i64 ((rd_T97 l0 x8_1).f1.f0), .int .i64 ((rd_T97 l0 x8_1).f1.f1), .int .i64 ((rd_T97 l0 x8_1).f2), .int .i64 ((rd_T97 l0 x8_1).f3), .int .i64 0, .int .i64 0, .int .i64 0, .int .i64 0]) ?_ 5 _ rfl; (with_reducible repeat (first | refine blk_drewN ?_ _ | refine blk_drew ?_ | refine blk_alloc ?_ _)); refine blk_put (cs := #[.int .i64 ((rd_T97 l0 x8_1).f0), .int .i64 ((rd_T97 l0 x8_1).f1.f0), .int .i64 ((rd_T97 l0 x8_1).f1.f1), .int .i64 ((rd_T97 l0 x8_1).f2), .int .i64 0, .int .i64 0, .int .i64 0, .int .i64 0, .int .i64 0]) ?_ 4 _ rfl; (with_reducible repeat (first | refine blk_drewN ?_ _ | refine blk_drew ?_ | refine blk_alloc ?_ _)); refine blk_put (cs := #[.int .i64 ((rd_T97 l0 x8_1).f0), .int .i64 ((rd_T97 l0 x8_1).f1.f0), .int .i64 ((rd_T97 l0 x8_1).f1.f1), .int .i64 0, .int .i64 0, .int .i64 0, .int .i64 0, .int .i64 0, .int .i64 0]) ?_ 3 _ rfl; (with_reducible repeat (first | refine blk_drewN ?_ _ | refine blk_drew ?_ | refine blk_alloc ?_ _)); refine blk_put (cs := #[.int .i64 ((rd_T97 l0 x8_1).f0), .int .i64 ((rd_T97 l0 x8_1).f1.f0), .int .i64 0, .int .i64 0, .int .i64 0, .int .i64 0, .int .i64 0, .int .i64 0, .int .i64 0]) ?_ 2 _ rfl; (with_reducible repeat (first | refine blk_drewN ?_ _ | refine blk_drew ?_ | refine blk_alloc ?_ _)); refine blk_put (cs := #[.int .i64 ((rd_T97 l0 x8_1).f0), .int .i64 0, .int .i64 0, .int .i64 0, .int .i64 0, .int .i64 0, .int .i64 0, .int .i64 0, .int .i64 0]) ?_ 1 _ rfl; (with_reducible repeat (first | refine blk_drewN ?_ _ | refine blk_drew ?_ | refine blk_alloc ?_ _)); refine blk_put (cs := #[.int .i64 0, .int .i64 0, .int .i64 0, .int .i64 0, .int .i64 0, .int .i64 0, .int .i64 0, .int .i64 0, .int .i64 0]) ?_ 0 _ rfl; (with_reducible repeat (first | refine blk_drewN ?_ _ | refine blk_drew ?_ | refine blk_alloc ?_ _)); exact BK183.out⟩
                    have n1_ : Aside0 (Below w.heap.size w (((((((((w13.setCell ⟨gb183, 0, none⟩ (.int .i64 ((rd_T97 l0 x8_1).f0))).setCell ⟨gb183, 1, none⟩ (.int .i64 ((rd_T97 l0 x8_1).f1.f0))).setCell ⟨gb183, 2, none⟩ (.int .i64 ((rd_T97 l0 x8_1).f1.f1))).setCell ⟨gb183, 3, none⟩ (.int .i64 ((rd_T97 l0 x8_1).f2))).setCell ⟨gb183, 4, none⟩ (.int .i64 ((rd_T97 l0 x8_1).f3))).setCell ⟨gb183, 5, none⟩ (.int .i64 ((rd_T97 l0 x8_1).f4.f0))).setCell ⟨gb183, 6, none⟩ (.int .i64 ((rd_T97 l0 x8_1).f4.f1))).setCell ⟨gb183, 7, none⟩ (.int .i64 ((rd_T97 l0 x8_1).f4.f2))).setCell ⟨gb183, 8, none⟩ (.int .i64 ((rd_T97 l0 x8_1).f4.f3)))) := ⟨by repeat (first | (with_reducible first | exact HB.out | apply below_alloc | apply pw_below_drewN | apply below_drew1 | refine below_set ?_ GE183.out) | exact HB.out)⟩
                    (try clear BK183)
                    (try clear HB)
                    generalize (((((((((w13.setCell ⟨gb183, 0, none⟩ (.int .i64 ((rd_T97 l0 x8_1).f0))).setCell ⟨gb183, 1, none⟩ (.int .i64 ((rd_T97 l0 x8_1).f1.f0))).setCell ⟨gb183, 2, none⟩ (.int .i64 ((rd_T97 l0 x8_1).f1.f1))).setCell ⟨gb183, 3, none⟩ (.int .i64 ((rd_T97 l0 x8_1).f2))).setCell ⟨gb183, 4, none⟩ (.int .i64 ((rd_T97 l0 x8_1).f3))).setCell ⟨gb183, 5, none⟩ (.int .i64 ((rd_T97 l0 x8_1).f4.f0))).setCell ⟨gb183, 6, none⟩ (.int .i64 ((rd_T97 l0 x8_1).f4.f1))).setCell ⟨gb183, 7, none⟩ (.int .i64 ((rd_T97 l0 x8_1).f4.f2))).setCell ⟨gb183, 8, none⟩ (.int .i64 ((rd_T97 l0 x8_1).f4.f3))) = w15 at n0_ n1_ ⊢
                    have BK183 := n0_
                    have HB := n1_
                    clear n0_ n1_
                    have n0_ := Aside0.mk (blk_drew BK183.out)
                    have n1_ := Aside0.mk (below_drew1 HB.out)
                    clear BK183
                    clear HB
                    have BK183 := n0_
                    have HB := n1_
                    clear n0_ n1_
                    have q17 : (x8_1 : Int) ≤ ((l0.length : Int) : Int) := of_decide_eq_true (by first | (with_reducible assumption) | assumption)
                    obtain ⟨i017, hi017, _, hsz17, _⟩ := info_parts info97
                    have hroom17 : l0.length ≤ c0 := HC0.out
                    have hC17 : Kd.C k97 _ (some ad182) l0.length l0 := HR0.out
                    have hcut17 := cut_to (P := Try.prog) 64 97 .i64 Try.underlying64 hi017 (some ad182) l0.length c0 x8_1 (of_decide_eq_true (by first | (with_reducible assumption) | assumption)) q17 hroom17
                    have hr17 := Kd.C_take (m := (x8_1 : Int).toNat) hC17 (by omega)
                    have hy17 : y184.length = (x8_1 : Int).toNat := (by rw [Ny184.out, List.length_take]; omega)
                    rw [← Ny184.out] at hr17
                    rw [← hy17] at hcut17
                    have HR187 := Aside0.mk hr17
                    have HC187 := Aside0.mk (show y184.length ≤ c0 from by omega)
                    clear hr17 hC17 hroom17 hi017 hsz17
                    have KY17 := Aside0.mk hy17
                    clear hy17
                    replace q17 := eq_true q17
                    refine start_ (n := 9) (S := fun w' => w'.cell? ⟨gb183, 0, none⟩ = some (.int .i64 ((rd_T97 l0 x8_1).f0)) ∧ w'.cell? ⟨gb183, 1, none⟩ = some (.int .i64 ((rd_T97 l0 x8_1).f1.f0)) ∧ w'.cell? ⟨gb183, 2, none⟩ = some (.int .i64 ((rd_T97 l0 x8_1).f1.f1)) ∧ w'.cell? ⟨gb183, 3, none⟩ = some (.int .i64 ((rd_T97 l0 x8_1).f2)) ∧ w'.cell? ⟨gb183, 4, none⟩ = some (.int .i64 ((rd_T97 l0 x8_1).f3)) ∧ w'.cell? ⟨gb183, 5, none⟩ = some (.int .i64 ((rd_T97 l0 x8_1).f4.f0)) ∧ w'.cell? ⟨gb183, 6, none⟩ = some (.int .i64 ((rd_T97 l0 x8_1).f4.f1)) ∧ w'.cell? ⟨gb183, 7, none⟩ = some (.int .i64 ((rd_T97 l0 x8_1).f4.f2)) ∧ w'.cell? ⟨gb183, 8, none⟩ = some (.int .i64 ((rd_T97 l0 x8_1).f4.f3))) (ds := []) #[false, false, false, false, false, false, false, false, false] (by kernel_rfl) rfl rfl ⟨(blk_cell BK183.out 0).trans rfl, (blk_cell BK183.out 1).trans rfl, (blk_cell BK183.out 2).trans rfl, (blk_cell BK183.out 3).trans rfl, (blk_cell BK183.out 4).trans rfl, (blk_cell BK183.out 5).trans rfl, (blk_cell BK183.out 6).trans rfl, (blk_cell BK183.out 7).trans rfl, (blk_cell BK183.out 8).trans rfl⟩ (fun hHeld => ?_); refine with_tabW impl_PanSound.tab4 impl_PanSound.bits4 (fun HT_ HW_ => ?_)
                    generalize w15.drew = w16 at BK183 HB HR187 hHeld ⊢
                    refine pure_ (i := 0) (N := some 13) (v := ?_) (a' := ?_) #[true, false, false, false, false, false, false, false, false] rfl rfl (any_of HT_.out (by kernel_rfl)) (fun _ _ _ h => h) (Or.inl ⟨by rfl, ?_⟩) ?_ ?_
                    rotate_left
                    · intro w'
                      go_simp
                      with_reducible rfl
                    rotate_left
                    · simp only [Act.put, List.setIfInBounds_toArray, List.set_cons_zero, List.set_cons_succ, i64_w, i32_w]
                      rfl
                    refine pure_ (i := 1) (N := some 14) (v := ?_) (a' := ?_) #[true, true, false, false, false, false, false, false, false] rfl rfl (any_of HT_.out (by kernel_rfl)) (fun _ _ _ h => h) (Or.inl ⟨by rfl, ?_⟩) ?_ ?_
                    rotate_left
                    · intro w'
                      go_simp
                      with_reducible rfl
                    rotate_left
                    · simp only [Act.put, List.setIfInBounds_toArray, List.set_cons_zero, List.set_cons_succ, i64_w, i32_w]
                      rfl
                    refine pure_ (i := 2) (N := some 15) (v := ?_) (a' := ?_) #[true, true, true, false, false, false, false, false, false] rfl rfl (any_of HT_.out (by kernel_rfl)) (fun _ _ _ h => h) (Or.inl ⟨by rfl, ?_⟩) ?_ ?_
                    rotate_left
                    · intro w'
                      go_simp
                      with_reducible rfl
                    rotate_left
                    · simp only [Act.put, List.setIfInBounds_toArray, List.set_cons_zero, List.set_cons_succ, i64_w, i32_w]
                      rfl
                    refine pure_ (i := 3) (N := some 16) (v := ?_) (a' := ?_) #[true, true, true, true, false, false, false, false, false] rfl rfl (any_of HT_.out (by kernel_rfl)) (fun _ _ _ h => h) (Or.inl ⟨by rfl, ?_⟩) ?_ ?_
                    rotate_left
                    · intro w'
                      go_simp
                      with_reducible rfl
                    rotate_left
                    · simp only [Act.put, List.setIfInBounds_toArray, List.set_cons_zero, List.set_cons_succ, i64_w, i32_w]
                      rfl
                    refine pure_ (i := 5) (N := some 18) (v := ?_) (a' := ?_) #[true, true, true, true, false, true, false, false, false] rfl rfl (any_of HT_.out (by kernel_rfl)) (fun _ _ _ h => h) (Or.inl ⟨by rfl, ?_⟩) ?_ ?_
                    rotate_left
                    · intro w'
                      go_simp
                      with_reducible rfl
                    rotate_left
                    · simp only [Act.put, List.setIfInBounds_toArray, List.set_cons_zero, List.set_cons_succ, i64_w, i32_w]
                      rfl
                    refine take_ (i := 4) (N := some 17) (v := ?_) (a' := ?_) #[true, true, true, true, true, true, false, false, false] rfl rfl (take_ofW HT_.out HW_.out (by kernel_rfl)) (fun _ _ _ h => h) (Or.inl ⟨by rfl, ?_⟩) hHeld ?_ ?_
                    rotate_left
                    · rintro w' ⟨s0, s1, s2, s3, s4, s5, s6, s7, s8⟩
                      go_simp
                      with_reducible rfl
                    rotate_left
                    · simp only [Act.put, List.setIfInBounds_toArray, List.set_cons_zero, List.set_cons_succ, i64_w, i32_w]
                      rfl
                    refine take_ (i := 6) (N := some 19) (v := ?_) (a' := ?_) #[true, true, true, true, true, true, true, false, false] rfl rfl (take_ofW HT_.out HW_.out (by kernel_rfl)) (fun _ _ _ h => h) (Or.inl ⟨by rfl, ?_⟩) hHeld ?_ ?_
                    rotate_left
                    · rintro w' ⟨s0, s1, s2, s3, s4, s5, s6, s7, s8⟩
                      go_simp
                      with_reducible rfl
                    rotate_left
                    · simp only [Act.put, List.setIfInBounds_toArray, List.set_cons_zero, List.set_cons_succ, i64_w, i32_w]
                      rfl
                    refine one_ (i := 7) (N := some 20) #[true, true, true, true, true, true, true, true, false] rfl rfl (one_of HT_.out (by kernel_rfl)) (by decide) (fun K hK => ?_)
                    refine goes_ Try.func45 (by kernel_rfl) rfl #[.slice (some ad182) y184.length c0, .int .i64 ((rd_T97 l0 x8_1).f0), .agg #[.int .i64 ((rd_T97 l0 x8_1).f1.f0), .int .i64 ((rd_T97 l0 x8_1).f1.f1)]] (by rfl) rfl rfl (by (try simp only [List.map_toArray, List.map_cons, List.map_nil]); first | done | rfl | (simp only [List.length_drop, List.length_take]; rfl)) ?_
                    with_reducible refine (impl_PanOf.calls k1 _ _ y184 ((rd_T97 l0 x8_1).f0) ((rd_T97 l0 x8_1).f1.f0) ((rd_T97 l0 x8_1).f1.f1) t188 _ ?side1 ?side2 A7.out).mono ?_
                    (case side1 => repeat (first | exact (Kd.C_below HR187.out HB.out) | (with_reducible refine Kd.C_alloc ?_ _) | (with_reducible refine Kd.C_drewN ?_ _) | (with_reducible refine Kd.C_drew ?_)))
                    (case side2 => exact HC187.out)
                    rintro e w18 ⟨v189, rfl, ho0, hb⟩
                    refine ⟨_, rfl, ?_⟩
                    have n0_ := Aside0.mk (Kd.R_lower (Kd.R_newB ho0 (g := gb183) (o := .cells #[.int .i64 ((rd_T97 l0 x8_1).f0), .int .i64 ((rd_T97 l0 x8_1).f1.f0), .int .i64 ((rd_T97 l0 x8_1).f1.f1), .int .i64 ((rd_T97 l0 x8_1).f2), .int .i64 ((rd_T97 l0 x8_1).f3), .int .i64 ((rd_T97 l0 x8_1).f4.f0), .int .i64 ((rd_T97 l0 x8_1).f4.f1), .int .i64 ((rd_T97 l0 x8_1).f4.f2), .int .i64 ((rd_T97 l0 x8_1).f4.f3)] 97 (0, 0)) (by (with_reducible repeat (first | refine blk_drewN ?_ _ | refine blk_drew ?_ | refine blk_alloc ?_ _)); exact BK183.out)) (below_size (by repeat (first | (with_reducible first | exact HB.out | apply below_alloc | apply pw_below_drewN | apply below_drew1 | refine below_set ?_ GE183.out) | exact HB.out))))
                    have n1_ := Aside0.mk (blk_below (g := gb183) (o := .cells #[.int .i64 ((rd_T97 l0 x8_1).f0), .int .i64 ((rd_T97 l0 x8_1).f1.f0), .int .i64 ((rd_T97 l0 x8_1).f1.f1), .int .i64 ((rd_T97 l0 x8_1).f2), .int .i64 ((rd_T97 l0 x8_1).f3), .int .i64 ((rd_T97 l0 x8_1).f4.f0), .int .i64 ((rd_T97 l0 x8_1).f4.f1), .int .i64 ((rd_T97 l0 x8_1).f4.f2), .int .i64 ((rd_T97 l0 x8_1).f4.f3)] 97 (0, 0)) (by (with_reducible repeat (first | refine blk_drewN ?_ _ | refine blk_drew ?_ | refine blk_alloc ?_ _)); exact BK183.out) hb)
                    have n2_ := Aside0.mk (below_step (by repeat (first | (with_reducible first | exact HB.out | apply below_alloc | apply pw_below_drewN | apply below_drew1 | refine below_set ?_ GE183.out) | exact HB.out)) hb)
                    clear BK183
                    clear HB
                    have HO190 := n0_
                    have BK183 := n1_
                    have HB := n2_
                    clear n0_ n1_ n2_
                    (try clear hb)
                    (try clear hb2)
                    (try clear hk)
                    (try clear hi)
                    (try clear ho0)
                    refine hK.out _ _ ⟨(blk_cell BK183.out 0).trans rfl, (blk_cell BK183.out 1).trans rfl, (blk_cell BK183.out 2).trans rfl, (blk_cell BK183.out 3).trans rfl, (blk_cell BK183.out 4).trans rfl, (blk_cell BK183.out 5).trans rfl, (blk_cell BK183.out 6).trans rfl, (blk_cell BK183.out 7).trans rfl, (blk_cell BK183.out 8).trans rfl⟩ (fun hHeld => ?_)
                    clear hK K
                    refine norm_ (a' := ?_) ?_ ?_
                    rotate_left
                    · show Act.put _ (some 20) _ = _
                      simp only [Act.put, List.setIfInBounds_toArray, List.set_cons_zero, List.set_cons_succ, i64_w, i32_w]
                      rfl
                    refine pure_ (i := 8) (N := some 5) (v := ?_) (a' := ?_) #[true, true, true, true, true, true, true, true, true] rfl rfl (any_of HT_.out (by kernel_rfl)) (fun _ _ _ h => h) (Or.inl ⟨by rfl, ?_⟩) ?_ ?_
                    rotate_left
                    · intro w'
                      go_simp
                      with_reducible rfl
                    rotate_left
                    · simp only [Act.put, List.setIfInBounds_toArray, List.set_cons_zero, List.set_cons_succ, i64_w, i32_w]
                      rfl
                    refine done_ (done_of HT_.out (by kernel_rfl)) ?_
                    have hcz19_0 : w18.cell? ⟨gb183, 0, none⟩ = some (.int .i64 ((rd_T97 l0 x8_1).f0)) := (blk_cell BK183.out 0).trans rfl
                    have hcz19_1 : w18.cell? ⟨gb183, 1, none⟩ = some (.int .i64 ((rd_T97 l0 x8_1).f1.f0)) := (blk_cell BK183.out 1).trans rfl
                    have hcz19_2 : w18.cell? ⟨gb183, 2, none⟩ = some (.int .i64 ((rd_T97 l0 x8_1).f1.f1)) := (blk_cell BK183.out 2).trans rfl
                    have hcz19_3 : w18.cell? ⟨gb183, 3, none⟩ = some (.int .i64 ((rd_T97 l0 x8_1).f2)) := (blk_cell BK183.out 3).trans rfl
                    have hcz19_4 : w18.cell? ⟨gb183, 4, none⟩ = some (.int .i64 ((rd_T97 l0 x8_1).f3)) := (blk_cell BK183.out 4).trans rfl
                    have hcz19_5 : w18.cell? ⟨gb183, 5, none⟩ = some (.int .i64 ((rd_T97 l0 x8_1).f4.f0)) := (blk_cell BK183.out 5).trans rfl
                    have hcz19_6 : w18.cell? ⟨gb183, 6, none⟩ = some (.int .i64 ((rd_T97 l0 x8_1).f4.f1)) := (blk_cell BK183.out 6).trans rfl
                    have hcz19_7 : w18.cell? ⟨gb183, 7, none⟩ = some (.int .i64 ((rd_T97 l0 x8_1).f4.f2)) := (blk_cell BK183.out 7).trans rfl
                    have hcz19_8 : w18.cell? ⟨gb183, 8, none⟩ = some (.int .i64 ((rd_T97 l0 x8_1).f4.f3)) := (blk_cell BK183.out 8).trans rfl
                    have hfz19_0 := blk_frozen BK183.out 0
                    have hfz19_1 := blk_frozen BK183.out 1
                    have hfz19_2 := blk_frozen BK183.out 2
                    have hfz19_3 := blk_frozen BK183.out 3
                    have hfz19_4 := blk_frozen BK183.out 4
                    have hfz19_5 := blk_frozen BK183.out 5
                    have hfz19_6 := blk_frozen BK183.out 6
                    have hfz19_7 := blk_frozen BK183.out 7
                    have hfz19_8 := blk_frozen BK183.out 8
                    try go_wp2_with (first | ((with_reducible refine gate_callee (f := 68) rfl ?_); refine goesL_ (some 22) rfl rfl Try.func68 (by kernel_rfl) rfl #[.agg #[.int .i64 ((rd_T97 l0 x8_1).f0), .int .i64 ((rd_T97 l0 x8_1).f1.f0), .int .i64 ((rd_T97 l0 x8_1).f1.f1), .int .i64 ((rd_T97 l0 x8_1).f2), .int .i64 ((rd_T97 l0 x8_1).f3), .int .i64 ((rd_T97 l0 x8_1).f4.f0), .int .i64 ((rd_T97 l0 x8_1).f4.f1), .int .i64 ((rd_T97 l0 x8_1).f4.f2), .int .i64 ((rd_T97 l0 x8_1).f4.f3)]] rfl (by (try simp only [List.map_toArray, List.map_cons, List.map_nil]); first | done | rfl | (simp only [List.length_drop, List.length_take]; rfl)) ?_; (with_reducible refine (impl_PanOk.calls k1 ((rd_T97 l0 x8_1).f0) ((rd_T97 l0 x8_1).f1.f0) ((rd_T97 l0 x8_1).f1.f1) ((rd_T97 l0 x8_1).f2) ((rd_T97 l0 x8_1).f3) ((rd_T97 l0 x8_1).f4.f0) ((rd_T97 l0 x8_1).f4.f1) ((rd_T97 l0 x8_1).f4.f2) ((rd_T97 l0 x8_1).f4.f3) true _ A8.out).mono ?_); rintro e w20 ⟨rfl, hb⟩; refine ⟨_, rfl, ?_⟩; have n0_ := Aside0.mk (Kd.R_below (by (with_reducible repeat (first | apply Kd.R_alloc | apply Kd.R_drewN | apply Kd.R_drew)); exact HO190.out) hb); have n1_ := Aside0.mk (blk_below (g := gb183) (o := .cells #[.int .i64 ((rd_T97 l0 x8_1).f0), .int .i64 ((rd_T97 l0 x8_1).f1.f0), .int .i64 ((rd_T97 l0 x8_1).f1.f1), .int .i64 ((rd_T97 l0 x8_1).f2), .int .i64 ((rd_T97 l0 x8_1).f3), .int .i64 ((rd_T97 l0 x8_1).f4.f0), .int .i64 ((rd_T97 l0 x8_1).f4.f1), .int .i64 ((rd_T97 l0 x8_1).f4.f2), .int .i64 ((rd_T97 l0 x8_1).f4.f3)] 97 (0, 0)) (by (with_reducible repeat (first | refine blk_drewN ?_ _ | refine blk_drew ?_ | refine blk_alloc ?_ _)); exact BK183.out) hb); have n2_ := Aside0.mk (below_step (by repeat (first | (with_reducible first | exact HB.out | apply below_alloc | apply pw_below_drewN | apply below_drew1 | refine below_set ?_ GE183.out) | exact HB.out)) hb); clear HO190; clear BK183; clear HB; have HO190 := n0_; have BK183 := n1_; have HB := n2_; clear n0_ n1_ n2_; (try clear hb); (try clear hb2); (try clear hk); (try clear hi); have hcz21_0 : w20.cell? ⟨gb183, 0, none⟩ = some (.int .i64 ((rd_T97 l0 x8_1).f0)) := (blk_cell BK183.out 0).trans rfl; have hcz21_1 : w20.cell? ⟨gb183, 1, none⟩ = some (.int .i64 ((rd_T97 l0 x8_1).f1.f0)) := (blk_cell BK183.out 1).trans rfl; have hcz21_2 : w20.cell? ⟨gb183, 2, none⟩ = some (.int .i64 ((rd_T97 l0 x8_1).f1.f1)) := (blk_cell BK183.out 2).trans rfl; have hcz21_3 : w20.cell? ⟨gb183, 3, none⟩ = some (.int .i64 ((rd_T97 l0 x8_1).f2)) := (blk_cell BK183.out 3).trans rfl; have hcz21_4 : w20.cell? ⟨gb183, 4, none⟩ = some (.int .i64 ((rd_T97 l0 x8_1).f3)) := (blk_cell BK183.out 4).trans rfl; have hcz21_5 : w20.cell? ⟨gb183, 5, none⟩ = some (.int .i64 ((rd_T97 l0 x8_1).f4.f0)) := (blk_cell BK183.out 5).trans rfl; have hcz21_6 : w20.cell? ⟨gb183, 6, none⟩ = some (.int .i64 ((rd_T97 l0 x8_1).f4.f1)) := (blk_cell BK183.out 6).trans rfl; have hcz21_7 : w20.cell? ⟨gb183, 7, none⟩ = some (.int .i64 ((rd_T97 l0 x8_1).f4.f2)) := (blk_cell BK183.out 7).trans rfl; have hcz21_8 : w20.cell? ⟨gb183, 8, none⟩ = some (.int .i64 ((rd_T97 l0 x8_1).f4.f3)) := (blk_cell BK183.out 8).trans rfl; have hfz21_0 := blk_frozen BK183.out 0; have hfz21_1 := blk_frozen BK183.out 1; have hfz21_2 := blk_frozen BK183.out 2; have hfz21_3 := blk_frozen BK183.out 3; have hfz21_4 := blk_frozen BK183.out 4; have hfz21_5 := blk_frozen BK183.out 5; have hfz21_6 := blk_frozen BK183.out 6; have hfz21_7 := blk_frozen BK183.out 7; have hfz21_8 := blk_frozen BK183.out 8; obtain ⟨Ao22, co22, eo22⟩ := Kd.R_slice HO190.out; subst eo22) | (go_at_call 69; (with_reducible refine (pan_gone.calls _ _ t188 true _ ?side1 ?side2 A11.out).mono ?_); (case side1 => repeat (first | exact (Kd.R_reads' HO190.out).2.2 | (with_reducible refine Kd.C_alloc ?_ _) | (with_reducible refine Kd.C_drewN ?_ _) | (with_reducible refine Kd.C_drew ?_))); (case side2 => exact (Kd.R_reads' HO190.out).2.1); rintro e w23 ⟨rfl, hb⟩; have n0_ := Aside0.mk (Kd.R_below (by (with_reducible repeat (first | apply Kd.R_alloc | apply Kd.R_drewN | apply Kd.R_drew)); exact HO190.out) hb); have n1_ := Aside0.mk (blk_below (g := gb183) (o := .cells #[.int .i64 ((rd_T97 l0 x8_1).f0), .int .i64 ((rd_T97 l0 x8_1).f1.f0), .int .i64 ((rd_T97 l0 x8_1).f1.f1), .int .i64 ((rd_T97 l0 x8_1).f2), .int .i64 ((rd_T97 l0 x8_1).f3), .int .i64 ((rd_T97 l0 x8_1).f4.f0), .int .i64 ((rd_T97 l0 x8_1).f4.f1), .int .i64 ((rd_T97 l0 x8_1).f4.f2), .int .i64 ((rd_T97 l0 x8_1).f4.f3)] 97 (0, 0)) (by (with_reducible repeat (first | refine blk_drewN ?_ _ | refine blk_drew ?_ | refine blk_alloc ?_ _)); exact BK183.out) hb); have n2_ := Aside0.mk (below_step (by repeat (first | (with_reducible first | exact HB.out | apply below_alloc | apply pw_below_drewN | apply below_drew1 | refine below_set ?_ GE183.out) | exact HB.out)) hb); clear HO190; clear BK183; clear HB; have HO190 := n0_; have BK183 := n1_; have HB := n2_; clear n0_ n1_ n2_; (try clear hb); (try clear hb2); (try clear hk); (try clear hi)))
                    go_ret
                    exact ⟨by first | rfl | (simp [errW_none, errW_some] <;> rfl) | (simp [*, errW_none, errW_some] <;> rfl), by repeat (first | (with_reducible first | exact HB.out | apply below_alloc | apply pw_below_drewN | apply below_drew1 | refine below_set ?_ GE183.out) | exact HB.out)⟩
                  · replace c12 := Bool.eq_false_iff.mpr c12
                    subst c12
                    have H1 : (impl_PanSound.l0 k1 l0 l0 (l0.length : Int) (wrap64 (x8_1 + 1))) = some r := by rw [if_neg (show ¬ (false = true) by decide)] at H; exact H
                    clear H
                    have H := H1
                    clear H1
                    have H' := Aside0.mk H
                    clear H
                    have p182 : 0 ≤ (x8_1 : Int) := of_decide_eq_true (by first | (with_reducible assumption) | assumption)
                    have q182 : x8_1 < (l0.length : Int) := of_decide_eq_true (by first | (with_reducible assumption) | assumption)
                    obtain ⟨ad182, e182, hx182_0, hx182_1, hx182_2, hx182_3, hx182_4, hx182_5, hx182_6, hx182_7, hx182_8⟩ := at_T97 HR0.out x8_1 p182 q182
                    cases e182
                    replace hx182_0 := (HB.out.cell (World.block_lt_of_cell? w _ hx182_0)).trans hx182_0
                    replace hx182_1 := (HB.out.cell (World.block_lt_of_cell? w _ hx182_1)).trans hx182_1
                    replace hx182_2 := (HB.out.cell (World.block_lt_of_cell? w _ hx182_2)).trans hx182_2
                    replace hx182_3 := (HB.out.cell (World.block_lt_of_cell? w _ hx182_3)).trans hx182_3
                    replace hx182_4 := (HB.out.cell (World.block_lt_of_cell? w _ hx182_4)).trans hx182_4
                    replace hx182_5 := (HB.out.cell (World.block_lt_of_cell? w _ hx182_5)).trans hx182_5
                    replace hx182_6 := (HB.out.cell (World.block_lt_of_cell? w _ hx182_6)).trans hx182_6
                    replace hx182_7 := (HB.out.cell (World.block_lt_of_cell? w _ hx182_7)).trans hx182_7
                    replace hx182_8 := (HB.out.cell (World.block_lt_of_cell? w _ hx182_8)).trans hx182_8
                    replace p182 := eq_true p182
                    replace q182 := eq_true q182
                    try go_wp2_with (first | ((with_reducible refine gate_dst (N := 4) rfl ?_); (try (refine gate_guard (by rfl) ?_; dsimp only)); refine box_event ?hg (N := 4) ?hd (cs := #[.int .i64 0, .int .i64 0, .int .i64 0, .int .i64 0, .int .i64 0, .int .i64 0, .int .i64 0, .int .i64 0, .int .i64 0]) (t := 97) ?hr ?_; (case hd => rfl); (case hg => rfl); (case hr => first | (go_simp; done) | (go_simp; rfl)); intro gb183 hg w24 hbox hb; have n0_ := Aside0.mk (below_step (by repeat (first | (with_reducible first | exact HB.out | apply below_alloc | apply pw_below_drewN | apply below_drew1) | exact HB.out)) hb); have n1_ := Aside0.mk (hbox); have n2_ := Aside0.mk ((by rw [hg]; exact (below_size (by repeat (first | (with_reducible first | exact HB.out | apply below_alloc | apply pw_below_drewN | apply below_drew1) | exact HB.out))) : w.heap.size ≤ gb183)); have n3_ := Aside0.mk ((by rw [hg]; exact (below_size (by repeat (first | (with_reducible first | exact HB.out | apply below_alloc | apply pw_below_drewN | apply below_drew1) | exact HB.out))) : w.heap.size ≤ gb183)); clear HB; have HB := n0_; have BK183 := n1_; have GW183 := n2_; have GE183 := n3_; clear n0_ n1_ n2_ n3_; clear hb hbox hg; have hcz25_0 : w24.cell? ⟨gb183, 0, none⟩ = some (.int .i64 0) := (blk_cell BK183.out 0).trans rfl; have hcz25_1 : w24.cell? ⟨gb183, 1, none⟩ = some (.int .i64 0) := (blk_cell BK183.out 1).trans rfl; have hcz25_2 : w24.cell? ⟨gb183, 2, none⟩ = some (.int .i64 0) := (blk_cell BK183.out 2).trans rfl; have hcz25_3 : w24.cell? ⟨gb183, 3, none⟩ = some (.int .i64 0) := (blk_cell BK183.out 3).trans rfl; have hcz25_4 : w24.cell? ⟨gb183, 4, none⟩ = some (.int .i64 0) := (blk_cell BK183.out 4).trans rfl; have hcz25_5 : w24.cell? ⟨gb183, 5, none⟩ = some (.int .i64 0) := (blk_cell BK183.out 5).trans rfl; have hcz25_6 : w24.cell? ⟨gb183, 6, none⟩ = some (.int .i64 0) := (blk_cell BK183.out 6).trans rfl; have hcz25_7 : w24.cell? ⟨gb183, 7, none⟩ = some (.int .i64 0) := (blk_cell BK183.out 7).trans rfl; have hcz25_8 : w24.cell? ⟨gb183, 8, none⟩ = some (.int .i64 0) := (blk_cell BK183.out 8).trans rfl; have hfz25_0 := blk_frozen BK183.out 0; have hfz25_1 := blk_frozen BK183.out 1; have hfz25_2 := blk_frozen BK183.out 2; have hfz25_3 := blk_frozen BK183.out 3; have hfz25_4 := blk_frozen BK183.out 4; have hfz25_5 := blk_frozen BK183.out 5; have hfz25_6 := blk_frozen BK183.out 6; have hfz25_7 := blk_frozen BK183.out 7; have hfz25_8 := blk_frozen BK183.out 8))
                    have n0_ : Aside0 ((((((((((w24.setCell ⟨gb183, 0, none⟩ (.int .i64 ((rd_T97 l0 x8_1).f0))).setCell ⟨gb183, 1, none⟩ (.int .i64 ((rd_T97 l0 x8_1).f1.f0))).setCell ⟨gb183, 2, none⟩ (.int .i64 ((rd_T97 l0 x8_1).f1.f1))).setCell ⟨gb183, 3, none⟩ (.int .i64 ((rd_T97 l0 x8_1).f2))).setCell ⟨gb183, 4, none⟩ (.int .i64 ((rd_T97 l0 x8_1).f3))).setCell ⟨gb183, 5, none⟩ (.int .i64 ((rd_T97 l0 x8_1).f4.f0))).setCell ⟨gb183, 6, none⟩ (.int .i64 ((rd_T97 l0 x8_1).f4.f1))).setCell ⟨gb183, 7, none⟩ (.int .i64 ((rd_T97 l0 x8_1).f4.f2))).setCell ⟨gb183, 8, none⟩ (.int .i64 ((rd_T97 l0 x8_1).f4.f3))).heap[gb183]? = some (.cells #[.int .i64 ((rd_T97 l0 x8_1).f0), .int .i64 ((rd_T97 l0 x8_1).f1.f0), .int .i64 ((rd_T97 l0 x8_1).f1.f1), .int .i64 ((rd_T97 l0 x8_1).f2), .int .i64 ((rd_T97 l0 x8_1).f3), .int .i64 ((rd_T97 l0 x8_1).f4.f0), .int .i64 ((rd_T97 l0 x8_1).f4.f1), .int .i64 ((rd_T97 l0 x8_1).f4.f2), .int .i64 ((rd_T97 l0 x8_1).f4.f3)] 97 (0, 0))) := ⟨by (with_reducible repeat (first | refine blk_drewN ?_ _ | refine blk_drew ?_ | refine blk_alloc ?_ _)); refine blk_put (cs := #[.int .i64 ((rd_T97 l0 x8_1).f0), .int .i64 ((rd_T97 l0 x8_1).f1.f0), .int .i64 ((rd_T97 l0 x8_1).f1.f1), .int .i64 ((rd_T97 l0 x8_1).f2), .int .i64 ((rd_T97 l0 x8_1).f3), .int .i64 ((rd_T97 l0 x8_1).f4.f0), .int .i64 ((rd_T97 l0 x8_1).f4.f1), .int .i64 ((rd_T97 l0 x8_1).f4.f2), .int .i64 0]) ?_ 8 _ rfl; (with_reducible repeat (first | refine blk_drewN ?_ _ | refine blk_drew ?_ | refine blk_alloc ?_ _)); refine blk_put (cs := #[.int .i64 ((rd_T97 l0 x8_1).f0), .int .i64 ((rd_T97 l0 x8_1).f1.f0), .int .i64 ((rd_T97 l0 x8_1).f1.f1), .int .i64 ((rd_T97 l0 x8_1).f2), .int .i64 ((rd_T97 l0 x8_1).f3), .int .i64 ((rd_T97 l0 x8_1).f4.f0), .int .i64 ((rd_T97 l0 x8_1).f4.f1), .int .i64 0, .int .i64 0]) ?_ 7 _ rfl; (with_reducible repeat (first | refine blk_drewN ?_ _ | refine blk_drew ?_ | refine blk_alloc ?_ _)); refine blk_put (cs := #[.int .i64 ((rd_T97 l0 x8_1).f0), .int .i64 ((rd_T97 l0 x8_1).f1.f0), .int .i64 ((rd_T97 l0 x8_1).f1.f1), .int .i64 ((rd_T97 l0 x8_1).f2), .int .i64 ((rd_T97 l0 x8_1).f3), .int .i64 ((rd_T97 l0 x8_1).f4.f0), .int .i64 0, .int .i64 0, .int .i64 0]) ?_ 6 _ rfl; (with_reducible repeat (first | refine blk_drewN ?_ _ | refine blk_drew ?_ | refine blk_alloc ?_ _)); refine blk_put (cs := #[.int .i64 ((rd_T97 l0 x8_1).f0), .int .i64 ((rd_T97 l0 x8_1).f1.f0), .int .i64 ((rd_T97 l0 x8_1).f1.f1), .int .i64 ((rd_T97 l0 x8_1).f2), .int .i64 ((rd_T97 l0 x8_1).f3), .int .i64 0, .int .i64 0, .int .i64 0, .int .i64 0]) ?_ 5 _ rfl; (with_reducible repeat (first | refine blk_drewN ?_ _ | refine blk_drew ?_ | refine blk_alloc ?_ _)); refine blk_put (cs := #[.int .i64 ((rd_T97 l0 x8_1).f0), .int .i64 ((rd_T97 l0 x8_1).f1.f0), .int .i64 ((rd_T97 l0 x8_1).f1.f1), .int .i64 ((rd_T97 l0 x8_1).f2), .int .i64 0, .int .i64 0, .int .i64 0, .int .i64 0, .int .i64 0]) ?_ 4 _ rfl; (with_reducible repeat (first | refine blk_drewN ?_ _ | refine blk_drew ?_ | refine blk_alloc ?_ _)); refine blk_put (cs := #[.int .i64 ((rd_T97 l0 x8_1).f0), .int .i64 ((rd_T97 l0 x8_1).f1.f0), .int .i64 ((rd_T97 l0 x8_1).f1.f1), .int .i64 0, .int .i64 0, .int .i64 0, .int .i64 0, .int .i64 0, .int .i64 0]) ?_ 3 _ rfl; (with_reducible repeat (first | refine blk_drewN ?_ _ | refine blk_drew ?_ | refine blk_alloc ?_ _)); refine blk_put (cs := #[.int .i64 ((rd_T97 l0 x8_1).f0), .int .i64 ((rd_T97 l0 x8_1).f1.f0), .int .i64 0, .int .i64 0, .int .i64 0, .int .i64 0, .int .i64 0, .int .i64 0, .int .i64 0]) ?_ 2 _ rfl; (with_reducible repeat (first | refine blk_drewN ?_ _ | refine blk_drew ?_ | refine blk_alloc ?_ _)); refine blk_put (cs := #[.int .i64 ((rd_T97 l0 x8_1).f0), .int .i64 0, .int .i64 0, .int .i64 0, .int .i64 0, .int .i64 0, .int .i64 0, .int .i64 0, .int .i64 0]) ?_ 1 _ rfl; (with_reducible repeat (first | refine blk_drewN ?_ _ | refine blk_drew ?_ | refine blk_alloc ?_ _)); refine blk_put (cs := #[.int .i64 0, .int .i64 0, .int .i64 0, .int .i64 0, .int .i64 0, .int .i64 0, .int .i64 0, .int .i64 0, .int .i64 0]) ?_ 0 _ rfl; (with_reducible repeat (first | refine blk_drewN ?_ _ | refine blk_drew ?_ | refine blk_alloc ?_ _)); exact BK183.out⟩
                    have n1_ : Aside0 (Below w.heap.size w (((((((((w24.setCell ⟨gb183, 0, none⟩ (.int .i64 ((rd_T97 l0 x8_1).f0))).setCell ⟨gb183, 1, none⟩ (.int .i64 ((rd_T97 l0 x8_1).f1.f0))).setCell ⟨gb183, 2, none⟩ (.int .i64 ((rd_T97 l0 x8_1).f1.f1))).setCell ⟨gb183, 3, none⟩ (.int .i64 ((rd_T97 l0 x8_1).f2))).setCell ⟨gb183, 4, none⟩ (.int .i64 ((rd_T97 l0 x8_1).f3))).setCell ⟨gb183, 5, none⟩ (.int .i64 ((rd_T97 l0 x8_1).f4.f0))).setCell ⟨gb183, 6, none⟩ (.int .i64 ((rd_T97 l0 x8_1).f4.f1))).setCell ⟨gb183, 7, none⟩ (.int .i64 ((rd_T97 l0 x8_1).f4.f2))).setCell ⟨gb183, 8, none⟩ (.int .i64 ((rd_T97 l0 x8_1).f4.f3)))) := ⟨by repeat (first | (with_reducible first | exact HB.out | apply below_alloc | apply pw_below_drewN | apply below_drew1 | refine below_set ?_ GE183.out) | exact HB.out)⟩
                    (try clear BK183)
                    (try clear HB)
                    generalize (((((((((w24.setCell ⟨gb183, 0, none⟩ (.int .i64 ((rd_T97 l0 x8_1).f0))).setCell ⟨gb183, 1, none⟩ (.int .i64 ((rd_T97 l0 x8_1).f1.f0))).setCell ⟨gb183, 2, none⟩ (.int .i64 ((rd_T97 l0 x8_1).f1.f1))).setCell ⟨gb183, 3, none⟩ (.int .i64 ((rd_T97 l0 x8_1).f2))).setCell ⟨gb183, 4, none⟩ (.int .i64 ((rd_T97 l0 x8_1).f3))).setCell ⟨gb183, 5, none⟩ (.int .i64 ((rd_T97 l0 x8_1).f4.f0))).setCell ⟨gb183, 6, none⟩ (.int .i64 ((rd_T97 l0 x8_1).f4.f1))).setCell ⟨gb183, 7, none⟩ (.int .i64 ((rd_T97 l0 x8_1).f4.f2))).setCell ⟨gb183, 8, none⟩ (.int .i64 ((rd_T97 l0 x8_1).f4.f3))) = w26 at n0_ n1_ ⊢
                    have BK183 := n0_
                    have HB := n1_
                    clear n0_ n1_
                    have n0_ := Aside0.mk (blk_drew BK183.out)
                    have n1_ := Aside0.mk (below_drew1 HB.out)
                    clear BK183
                    clear HB
                    have BK183 := n0_
                    have HB := n1_
                    clear n0_ n1_
                    have q28 : (x8_1 : Int) ≤ ((l0.length : Int) : Int) := of_decide_eq_true (by first | (with_reducible assumption) | assumption)
                    obtain ⟨i028, hi028, _, hsz28, _⟩ := info_parts info97
                    have hroom28 : l0.length ≤ c0 := HC0.out
                    have hC28 : Kd.C k97 _ (some ad182) l0.length l0 := HR0.out
                    have hcut28 := cut_to (P := Try.prog) 64 97 .i64 Try.underlying64 hi028 (some ad182) l0.length c0 x8_1 (of_decide_eq_true (by first | (with_reducible assumption) | assumption)) q28 hroom28
                    have hr28 := Kd.C_take (m := (x8_1 : Int).toNat) hC28 (by omega)
                    have hy28 : y184.length = (x8_1 : Int).toNat := (by rw [Ny184.out, List.length_take]; omega)
                    rw [← Ny184.out] at hr28
                    rw [← hy28] at hcut28
                    have HR187 := Aside0.mk hr28
                    have HC187 := Aside0.mk (show y184.length ≤ c0 from by omega)
                    clear hr28 hC28 hroom28 hi028 hsz28
                    have KY28 := Aside0.mk hy28
                    clear hy28
                    replace q28 := eq_true q28
                    refine start_ (n := 9) (S := fun w' => w'.cell? ⟨gb183, 0, none⟩ = some (.int .i64 ((rd_T97 l0 x8_1).f0)) ∧ w'.cell? ⟨gb183, 1, none⟩ = some (.int .i64 ((rd_T97 l0 x8_1).f1.f0)) ∧ w'.cell? ⟨gb183, 2, none⟩ = some (.int .i64 ((rd_T97 l0 x8_1).f1.f1)) ∧ w'.cell? ⟨gb183, 3, none⟩ = some (.int .i64 ((rd_T97 l0 x8_1).f2)) ∧ w'.cell? ⟨gb183, 4, none⟩ = some (.int .i64 ((rd_T97 l0 x8_1).f3)) ∧ w'.cell? ⟨gb183, 5, none⟩ = some (.int .i64 ((rd_T97 l0 x8_1).f4.f0)) ∧ w'.cell? ⟨gb183, 6, none⟩ = some (.int .i64 ((rd_T97 l0 x8_1).f4.f1)) ∧ w'.cell? ⟨gb183, 7, none⟩ = some (.int .i64 ((rd_T97 l0 x8_1).f4.f2)) ∧ w'.cell? ⟨gb183, 8, none⟩ = some (.int .i64 ((rd_T97 l0 x8_1).f4.f3))) (ds := []) #[false, false, false, false, false, false, false, false, false] (by kernel_rfl) rfl rfl ⟨(blk_cell BK183.out 0).trans rfl, (blk_cell BK183.out 1).trans rfl, (blk_cell BK183.out 2).trans rfl, (blk_cell BK183.out 3).trans rfl, (blk_cell BK183.out 4).trans rfl, (blk_cell BK183.out 5).trans rfl, (blk_cell BK183.out 6).trans rfl, (blk_cell BK183.out 7).trans rfl, (blk_cell BK183.out 8).trans rfl⟩ (fun hHeld => ?_); refine with_tabW impl_PanSound.tab4 impl_PanSound.bits4 (fun HT_ HW_ => ?_)
                    generalize w26.drew = w27 at BK183 HB HR187 hHeld ⊢
                    refine pure_ (i := 0) (N := some 13) (v := ?_) (a' := ?_) #[true, false, false, false, false, false, false, false, false] rfl rfl (any_of HT_.out (by kernel_rfl)) (fun _ _ _ h => h) (Or.inl ⟨by rfl, ?_⟩) ?_ ?_
                    rotate_left
                    · intro w'
                      go_simp
                      with_reducible rfl
                    rotate_left
                    · simp only [Act.put, List.setIfInBounds_toArray, List.set_cons_zero, List.set_cons_succ, i64_w, i32_w]
                      rfl
                    refine pure_ (i := 1) (N := some 14) (v := ?_) (a' := ?_) #[true, true, false, false, false, false, false, false, false] rfl rfl (any_of HT_.out (by kernel_rfl)) (fun _ _ _ h => h) (Or.inl ⟨by rfl, ?_⟩) ?_ ?_
                    rotate_left
                    · intro w'
                      go_simp
                      with_reducible rfl
                    rotate_left
                    · simp only [Act.put, List.setIfInBounds_toArray, List.set_cons_zero, List.set_cons_succ, i64_w, i32_w]
                      rfl
                    refine pure_ (i := 2) (N := some 15) (v := ?_) (a' := ?_) #[true, true, true, false, false, false, false, false, false] rfl rfl (any_of HT_.out (by kernel_rfl)) (fun _ _ _ h => h) (Or.inl ⟨by rfl, ?_⟩) ?_ ?_
                    rotate_left
                    · intro w'
                      go_simp
                      with_reducible rfl
                    rotate_left
                    · simp only [Act.put, List.setIfInBounds_toArray, List.set_cons_zero, List.set_cons_succ, i64_w, i32_w]
                      rfl
                    refine pure_ (i := 3) (N := some 16) (v := ?_) (a' := ?_) #[true, true, true, true, false, false, false, false, false] rfl rfl (any_of HT_.out (by kernel_rfl)) (fun _ _ _ h => h) (Or.inl ⟨by rfl, ?_⟩) ?_ ?_
                    rotate_left
                    · intro w'
                      go_simp
                      with_reducible rfl
                    rotate_left
                    · simp only [Act.put, List.setIfInBounds_toArray, List.set_cons_zero, List.set_cons_succ, i64_w, i32_w]
                      rfl
                    refine pure_ (i := 5) (N := some 18) (v := ?_) (a' := ?_) #[true, true, true, true, false, true, false, false, false] rfl rfl (any_of HT_.out (by kernel_rfl)) (fun _ _ _ h => h) (Or.inl ⟨by rfl, ?_⟩) ?_ ?_
                    rotate_left
                    · intro w'
                      go_simp
                      with_reducible rfl
                    rotate_left
                    · simp only [Act.put, List.setIfInBounds_toArray, List.set_cons_zero, List.set_cons_succ, i64_w, i32_w]
                      rfl
                    refine take_ (i := 4) (N := some 17) (v := ?_) (a' := ?_) #[true, true, true, true, true, true, false, false, false] rfl rfl (take_ofW HT_.out HW_.out (by kernel_rfl)) (fun _ _ _ h => h) (Or.inl ⟨by rfl, ?_⟩) hHeld ?_ ?_
                    rotate_left
                    · rintro w' ⟨s0, s1, s2, s3, s4, s5, s6, s7, s8⟩
                      go_simp
                      with_reducible rfl
                    rotate_left
                    · simp only [Act.put, List.setIfInBounds_toArray, List.set_cons_zero, List.set_cons_succ, i64_w, i32_w]
                      rfl
                    refine take_ (i := 6) (N := some 19) (v := ?_) (a' := ?_) #[true, true, true, true, true, true, true, false, false] rfl rfl (take_ofW HT_.out HW_.out (by kernel_rfl)) (fun _ _ _ h => h) (Or.inl ⟨by rfl, ?_⟩) hHeld ?_ ?_
                    rotate_left
                    · rintro w' ⟨s0, s1, s2, s3, s4, s5, s6, s7, s8⟩
                      go_simp
                      with_reducible rfl
                    rotate_left
                    · simp only [Act.put, List.setIfInBounds_toArray, List.set_cons_zero, List.set_cons_succ, i64_w, i32_w]
                      rfl
                    refine one_ (i := 7) (N := some 20) #[true, true, true, true, true, true, true, true, false] rfl rfl (one_of HT_.out (by kernel_rfl)) (by decide) (fun K hK => ?_)
                    refine goes_ Try.func45 (by kernel_rfl) rfl #[.slice (some ad182) y184.length c0, .int .i64 ((rd_T97 l0 x8_1).f0), .agg #[.int .i64 ((rd_T97 l0 x8_1).f1.f0), .int .i64 ((rd_T97 l0 x8_1).f1.f1)]] (by rfl) rfl rfl (by (try simp only [List.map_toArray, List.map_cons, List.map_nil]); first | done | rfl | (simp only [List.length_drop, List.length_take]; rfl)) ?_
                    with_reducible refine (impl_PanOf.calls k1 _ _ y184 ((rd_T97 l0 x8_1).f0) ((rd_T97 l0 x8_1).f1.f0) ((rd_T97 l0 x8_1).f1.f1) t188 _ ?side1 ?side2 A7.out).mono ?_
                    (case side1 => repeat (first | exact (Kd.C_below HR187.out HB.out) | (with_reducible refine Kd.C_alloc ?_ _) | (with_reducible refine Kd.C_drewN ?_ _) | (with_reducible refine Kd.C_drew ?_)))
                    (case side2 => exact HC187.out)
                    rintro e w29 ⟨v189, rfl, ho0, hb⟩
                    refine ⟨_, rfl, ?_⟩
                    have n0_ := Aside0.mk (Kd.R_lower (Kd.R_newB ho0 (g := gb183) (o := .cells #[.int .i64 ((rd_T97 l0 x8_1).f0), .int .i64 ((rd_T97 l0 x8_1).f1.f0), .int .i64 ((rd_T97 l0 x8_1).f1.f1), .int .i64 ((rd_T97 l0 x8_1).f2), .int .i64 ((rd_T97 l0 x8_1).f3), .int .i64 ((rd_T97 l0 x8_1).f4.f0), .int .i64 ((rd_T97 l0 x8_1).f4.f1), .int .i64 ((rd_T97 l0 x8_1).f4.f2), .int .i64 ((rd_T97 l0 x8_1).f4.f3)] 97 (0, 0)) (by (with_reducible repeat (first | refine blk_drewN ?_ _ | refine blk_drew ?_ | refine blk_alloc ?_ _)); exact BK183.out)) (below_size (by repeat (first | (with_reducible first | exact HB.out | apply below_alloc | apply pw_below_drewN | apply below_drew1 | refine below_set ?_ GE183.out) | exact HB.out))))
                    have n1_ := Aside0.mk (blk_below (g := gb183) (o := .cells #[.int .i64 ((rd_T97 l0 x8_1).f0), .int .i64 ((rd_T97 l0 x8_1).f1.f0), .int .i64 ((rd_T97 l0 x8_1).f1.f1), .int .i64 ((rd_T97 l0 x8_1).f2), .int .i64 ((rd_T97 l0 x8_1).f3), .int .i64 ((rd_T97 l0 x8_1).f4.f0), .int .i64 ((rd_T97 l0 x8_1).f4.f1), .int .i64 ((rd_T97 l0 x8_1).f4.f2), .int .i64 ((rd_T97 l0 x8_1).f4.f3)] 97 (0, 0)) (by (with_reducible repeat (first | refine blk_drewN ?_ _ | refine blk_drew ?_ | refine blk_alloc ?_ _)); exact BK183.out) hb)
                    have n2_ := Aside0.mk (below_step (by repeat (first | (with_reducible first | exact HB.out | apply below_alloc | apply pw_below_drewN | apply below_drew1 | refine below_set ?_ GE183.out) | exact HB.out)) hb)
                    clear BK183
                    clear HB
                    have HO190 := n0_
                    have BK183 := n1_
                    have HB := n2_
                    clear n0_ n1_ n2_
                    (try clear hb)
                    (try clear hb2)
                    (try clear hk)
                    (try clear hi)
                    (try clear ho0)
                    refine hK.out _ _ ⟨(blk_cell BK183.out 0).trans rfl, (blk_cell BK183.out 1).trans rfl, (blk_cell BK183.out 2).trans rfl, (blk_cell BK183.out 3).trans rfl, (blk_cell BK183.out 4).trans rfl, (blk_cell BK183.out 5).trans rfl, (blk_cell BK183.out 6).trans rfl, (blk_cell BK183.out 7).trans rfl, (blk_cell BK183.out 8).trans rfl⟩ (fun hHeld => ?_)
                    clear hK K
                    refine norm_ (a' := ?_) ?_ ?_
                    rotate_left
                    · show Act.put _ (some 20) _ = _
                      simp only [Act.put, List.setIfInBounds_toArray, List.set_cons_zero, List.set_cons_succ, i64_w, i32_w]
                      rfl
                    refine pure_ (i := 8) (N := some 5) (v := ?_) (a' := ?_) #[true, true, true, true, true, true, true, true, true] rfl rfl (any_of HT_.out (by kernel_rfl)) (fun _ _ _ h => h) (Or.inl ⟨by rfl, ?_⟩) ?_ ?_
                    rotate_left
                    · intro w'
                      go_simp
                      with_reducible rfl
                    rotate_left
                    · simp only [Act.put, List.setIfInBounds_toArray, List.set_cons_zero, List.set_cons_succ, i64_w, i32_w]
                      rfl
                    refine done_ (done_of HT_.out (by kernel_rfl)) ?_
                    have hcz30_0 : w29.cell? ⟨gb183, 0, none⟩ = some (.int .i64 ((rd_T97 l0 x8_1).f0)) := (blk_cell BK183.out 0).trans rfl
                    have hcz30_1 : w29.cell? ⟨gb183, 1, none⟩ = some (.int .i64 ((rd_T97 l0 x8_1).f1.f0)) := (blk_cell BK183.out 1).trans rfl
                    have hcz30_2 : w29.cell? ⟨gb183, 2, none⟩ = some (.int .i64 ((rd_T97 l0 x8_1).f1.f1)) := (blk_cell BK183.out 2).trans rfl
                    have hcz30_3 : w29.cell? ⟨gb183, 3, none⟩ = some (.int .i64 ((rd_T97 l0 x8_1).f2)) := (blk_cell BK183.out 3).trans rfl
                    have hcz30_4 : w29.cell? ⟨gb183, 4, none⟩ = some (.int .i64 ((rd_T97 l0 x8_1).f3)) := (blk_cell BK183.out 4).trans rfl
                    have hcz30_5 : w29.cell? ⟨gb183, 5, none⟩ = some (.int .i64 ((rd_T97 l0 x8_1).f4.f0)) := (blk_cell BK183.out 5).trans rfl
                    have hcz30_6 : w29.cell? ⟨gb183, 6, none⟩ = some (.int .i64 ((rd_T97 l0 x8_1).f4.f1)) := (blk_cell BK183.out 6).trans rfl
                    have hcz30_7 : w29.cell? ⟨gb183, 7, none⟩ = some (.int .i64 ((rd_T97 l0 x8_1).f4.f2)) := (blk_cell BK183.out 7).trans rfl
                    have hcz30_8 : w29.cell? ⟨gb183, 8, none⟩ = some (.int .i64 ((rd_T97 l0 x8_1).f4.f3)) := (blk_cell BK183.out 8).trans rfl
                    have hfz30_0 := blk_frozen BK183.out 0
                    have hfz30_1 := blk_frozen BK183.out 1
                    have hfz30_2 := blk_frozen BK183.out 2
                    have hfz30_3 := blk_frozen BK183.out 3
                    have hfz30_4 := blk_frozen BK183.out 4
                    have hfz30_5 := blk_frozen BK183.out 5
                    have hfz30_6 := blk_frozen BK183.out 6
                    have hfz30_7 := blk_frozen BK183.out 7
                    have hfz30_8 := blk_frozen BK183.out 8
                    try go_wp2_with (first | ((with_reducible refine gate_callee (f := 68) rfl ?_); refine goesL_ (some 22) rfl rfl Try.func68 (by kernel_rfl) rfl #[.agg #[.int .i64 ((rd_T97 l0 x8_1).f0), .int .i64 ((rd_T97 l0 x8_1).f1.f0), .int .i64 ((rd_T97 l0 x8_1).f1.f1), .int .i64 ((rd_T97 l0 x8_1).f2), .int .i64 ((rd_T97 l0 x8_1).f3), .int .i64 ((rd_T97 l0 x8_1).f4.f0), .int .i64 ((rd_T97 l0 x8_1).f4.f1), .int .i64 ((rd_T97 l0 x8_1).f4.f2), .int .i64 ((rd_T97 l0 x8_1).f4.f3)]] rfl (by (try simp only [List.map_toArray, List.map_cons, List.map_nil]); first | done | rfl | (simp only [List.length_drop, List.length_take]; rfl)) ?_; (with_reducible refine (impl_PanOk.calls k1 ((rd_T97 l0 x8_1).f0) ((rd_T97 l0 x8_1).f1.f0) ((rd_T97 l0 x8_1).f1.f1) ((rd_T97 l0 x8_1).f2) ((rd_T97 l0 x8_1).f3) ((rd_T97 l0 x8_1).f4.f0) ((rd_T97 l0 x8_1).f4.f1) ((rd_T97 l0 x8_1).f4.f2) ((rd_T97 l0 x8_1).f4.f3) true _ A8.out).mono ?_); rintro e w31 ⟨rfl, hb⟩; refine ⟨_, rfl, ?_⟩; have n0_ := Aside0.mk (Kd.R_below (by (with_reducible repeat (first | apply Kd.R_alloc | apply Kd.R_drewN | apply Kd.R_drew)); exact HO190.out) hb); have n1_ := Aside0.mk (blk_below (g := gb183) (o := .cells #[.int .i64 ((rd_T97 l0 x8_1).f0), .int .i64 ((rd_T97 l0 x8_1).f1.f0), .int .i64 ((rd_T97 l0 x8_1).f1.f1), .int .i64 ((rd_T97 l0 x8_1).f2), .int .i64 ((rd_T97 l0 x8_1).f3), .int .i64 ((rd_T97 l0 x8_1).f4.f0), .int .i64 ((rd_T97 l0 x8_1).f4.f1), .int .i64 ((rd_T97 l0 x8_1).f4.f2), .int .i64 ((rd_T97 l0 x8_1).f4.f3)] 97 (0, 0)) (by (with_reducible repeat (first | refine blk_drewN ?_ _ | refine blk_drew ?_ | refine blk_alloc ?_ _)); exact BK183.out) hb); have n2_ := Aside0.mk (below_step (by repeat (first | (with_reducible first | exact HB.out | apply below_alloc | apply pw_below_drewN | apply below_drew1 | refine below_set ?_ GE183.out) | exact HB.out)) hb); clear HO190; clear BK183; clear HB; have HO190 := n0_; have BK183 := n1_; have HB := n2_; clear n0_ n1_ n2_; (try clear hb); (try clear hb2); (try clear hk); (try clear hi); have hcz32_0 : w31.cell? ⟨gb183, 0, none⟩ = some (.int .i64 ((rd_T97 l0 x8_1).f0)) := (blk_cell BK183.out 0).trans rfl; have hcz32_1 : w31.cell? ⟨gb183, 1, none⟩ = some (.int .i64 ((rd_T97 l0 x8_1).f1.f0)) := (blk_cell BK183.out 1).trans rfl; have hcz32_2 : w31.cell? ⟨gb183, 2, none⟩ = some (.int .i64 ((rd_T97 l0 x8_1).f1.f1)) := (blk_cell BK183.out 2).trans rfl; have hcz32_3 : w31.cell? ⟨gb183, 3, none⟩ = some (.int .i64 ((rd_T97 l0 x8_1).f2)) := (blk_cell BK183.out 3).trans rfl; have hcz32_4 : w31.cell? ⟨gb183, 4, none⟩ = some (.int .i64 ((rd_T97 l0 x8_1).f3)) := (blk_cell BK183.out 4).trans rfl; have hcz32_5 : w31.cell? ⟨gb183, 5, none⟩ = some (.int .i64 ((rd_T97 l0 x8_1).f4.f0)) := (blk_cell BK183.out 5).trans rfl; have hcz32_6 : w31.cell? ⟨gb183, 6, none⟩ = some (.int .i64 ((rd_T97 l0 x8_1).f4.f1)) := (blk_cell BK183.out 6).trans rfl; have hcz32_7 : w31.cell? ⟨gb183, 7, none⟩ = some (.int .i64 ((rd_T97 l0 x8_1).f4.f2)) := (blk_cell BK183.out 7).trans rfl; have hcz32_8 : w31.cell? ⟨gb183, 8, none⟩ = some (.int .i64 ((rd_T97 l0 x8_1).f4.f3)) := (blk_cell BK183.out 8).trans rfl; have hfz32_0 := blk_frozen BK183.out 0; have hfz32_1 := blk_frozen BK183.out 1; have hfz32_2 := blk_frozen BK183.out 2; have hfz32_3 := blk_frozen BK183.out 3; have hfz32_4 := blk_frozen BK183.out 4; have hfz32_5 := blk_frozen BK183.out 5; have hfz32_6 := blk_frozen BK183.out 6; have hfz32_7 := blk_frozen BK183.out 7; have hfz32_8 := blk_frozen BK183.out 8; obtain ⟨Ao33, co33, eo33⟩ := Kd.R_slice HO190.out; subst eo33) | (go_at_call 69; (with_reducible refine (pan_gone.calls _ _ t188 false _ ?side1 ?side2 A11.out).mono ?_); (case side1 => repeat (first | exact (Kd.R_reads' HO190.out).2.2 | (with_reducible refine Kd.C_alloc ?_ _) | (with_reducible refine Kd.C_drewN ?_ _) | (with_reducible refine Kd.C_drew ?_))); (case side2 => exact (Kd.R_reads' HO190.out).2.1); rintro e w34 ⟨rfl, hb⟩; have n0_ := Aside0.mk (Kd.R_below (by (with_reducible repeat (first | apply Kd.R_alloc | apply Kd.R_drewN | apply Kd.R_drew)); exact HO190.out) hb); have n1_ := Aside0.mk (blk_below (g := gb183) (o := .cells #[.int .i64 ((rd_T97 l0 x8_1).f0), .int .i64 ((rd_T97 l0 x8_1).f1.f0), .int .i64 ((rd_T97 l0 x8_1).f1.f1), .int .i64 ((rd_T97 l0 x8_1).f2), .int .i64 ((rd_T97 l0 x8_1).f3), .int .i64 ((rd_T97 l0 x8_1).f4.f0), .int .i64 ((rd_T97 l0 x8_1).f4.f1), .int .i64 ((rd_T97 l0 x8_1).f4.f2), .int .i64 ((rd_T97 l0 x8_1).f4.f3)] 97 (0, 0)) (by (with_reducible repeat (first | refine blk_drewN ?_ _ | refine blk_drew ?_ | refine blk_alloc ?_ _)); exact BK183.out) hb); have n2_ := Aside0.mk (below_step (by repeat (first | (with_reducible first | exact HB.out | apply below_alloc | apply pw_below_drewN | apply below_drew1 | refine below_set ?_ GE183.out) | exact HB.out)) hb); clear HO190; clear BK183; clear HB; have HO190 := n0_; have BK183 := n1_; have HB := n2_; clear n0_ n1_ n2_; (try clear hb); (try clear hb2); (try clear hk); (try clear hi)))
                    go_roundg k1
                    case measure => have := HK1.out; omega
                    case rel => exact ⟨(wrap64 (x8_1 + 1)), (by first | rfl | (simp; done) | (simp [*]; done)), H', ⟨by have := HK1.out; omega⟩, ⟨by repeat (first | (with_reducible first | exact HB.out | apply below_alloc | apply pw_below_drewN | apply below_drew1 | refine below_set ?_ GE183.out) | exact HB.out)⟩⟩
                · rw [if_neg c10] at H
                  have c10b0 : (((rd_T97 l0 x8_1).f2) == (t188.length : Int)) = false := beq_eq_false_iff_ne.mpr c10
                  have c10b1 : (((rd_T97 l0 x8_1).f2) != (t188.length : Int)) = true := bne_iff_ne.mpr c10
                  obtain rfl := Option.some.inj H
                  have p182 : 0 ≤ (x8_1 : Int) := of_decide_eq_true (by first | (with_reducible assumption) | assumption)
                  have q182 : x8_1 < (l0.length : Int) := of_decide_eq_true (by first | (with_reducible assumption) | assumption)
                  obtain ⟨ad182, e182, hx182_0, hx182_1, hx182_2, hx182_3, hx182_4, hx182_5, hx182_6, hx182_7, hx182_8⟩ := at_T97 HR0.out x8_1 p182 q182
                  cases e182
                  replace hx182_0 := (HB.out.cell (World.block_lt_of_cell? w _ hx182_0)).trans hx182_0
                  replace hx182_1 := (HB.out.cell (World.block_lt_of_cell? w _ hx182_1)).trans hx182_1
                  replace hx182_2 := (HB.out.cell (World.block_lt_of_cell? w _ hx182_2)).trans hx182_2
                  replace hx182_3 := (HB.out.cell (World.block_lt_of_cell? w _ hx182_3)).trans hx182_3
                  replace hx182_4 := (HB.out.cell (World.block_lt_of_cell? w _ hx182_4)).trans hx182_4
                  replace hx182_5 := (HB.out.cell (World.block_lt_of_cell? w _ hx182_5)).trans hx182_5
                  replace hx182_6 := (HB.out.cell (World.block_lt_of_cell? w _ hx182_6)).trans hx182_6
                  replace hx182_7 := (HB.out.cell (World.block_lt_of_cell? w _ hx182_7)).trans hx182_7
                  replace hx182_8 := (HB.out.cell (World.block_lt_of_cell? w _ hx182_8)).trans hx182_8
                  replace p182 := eq_true p182
                  replace q182 := eq_true q182
                  try go_wp2_with (first | ((with_reducible refine gate_dst (N := 4) rfl ?_); (try (refine gate_guard (by rfl) ?_; dsimp only)); refine box_event ?hg (N := 4) ?hd (cs := #[.int .i64 0, .int .i64 0, .int .i64 0, .int .i64 0, .int .i64 0, .int .i64 0, .int .i64 0, .int .i64 0, .int .i64 0]) (t := 97) ?hr ?_; (case hd => rfl); (case hg => rfl); (case hr => first | (go_simp; done) | (go_simp; rfl)); intro gb183 hg w35 hbox hb; have n0_ := Aside0.mk (below_step (by repeat (first | (with_reducible first | exact HB.out | apply below_alloc | apply pw_below_drewN | apply below_drew1) | exact HB.out)) hb); have n1_ := Aside0.mk (hbox); have n2_ := Aside0.mk ((by rw [hg]; exact (below_size (by repeat (first | (with_reducible first | exact HB.out | apply below_alloc | apply pw_below_drewN | apply below_drew1) | exact HB.out))) : w.heap.size ≤ gb183)); have n3_ := Aside0.mk ((by rw [hg]; exact (below_size (by repeat (first | (with_reducible first | exact HB.out | apply below_alloc | apply pw_below_drewN | apply below_drew1) | exact HB.out))) : w.heap.size ≤ gb183)); clear HB; have HB := n0_; have BK183 := n1_; have GW183 := n2_; have GE183 := n3_; clear n0_ n1_ n2_ n3_; clear hb hbox hg; have hcz36_0 : w35.cell? ⟨gb183, 0, none⟩ = some (.int .i64 0) := (blk_cell BK183.out 0).trans rfl; have hcz36_1 : w35.cell? ⟨gb183, 1, none⟩ = some (.int .i64 0) := (blk_cell BK183.out 1).trans rfl; have hcz36_2 : w35.cell? ⟨gb183, 2, none⟩ = some (.int .i64 0) := (blk_cell BK183.out 2).trans rfl; have hcz36_3 : w35.cell? ⟨gb183, 3, none⟩ = some (.int .i64 0) := (blk_cell BK183.out 3).trans rfl; have hcz36_4 : w35.cell? ⟨gb183, 4, none⟩ = some (.int .i64 0) := (blk_cell BK183.out 4).trans rfl; have hcz36_5 : w35.cell? ⟨gb183, 5, none⟩ = some (.int .i64 0) := (blk_cell BK183.out 5).trans rfl; have hcz36_6 : w35.cell? ⟨gb183, 6, none⟩ = some (.int .i64 0) := (blk_cell BK183.out 6).trans rfl; have hcz36_7 : w35.cell? ⟨gb183, 7, none⟩ = some (.int .i64 0) := (blk_cell BK183.out 7).trans rfl; have hcz36_8 : w35.cell? ⟨gb183, 8, none⟩ = some (.int .i64 0) := (blk_cell BK183.out 8).trans rfl; have hfz36_0 := blk_frozen BK183.out 0; have hfz36_1 := blk_frozen BK183.out 1; have hfz36_2 := blk_frozen BK183.out 2; have hfz36_3 := blk_frozen BK183.out 3; have hfz36_4 := blk_frozen BK183.out 4; have hfz36_5 := blk_frozen BK183.out 5; have hfz36_6 := blk_frozen BK183.out 6; have hfz36_7 := blk_frozen BK183.out 7; have hfz36_8 := blk_frozen BK183.out 8))
                  have n0_ : Aside0 ((((((((((w35.setCell ⟨gb183, 0, none⟩ (.int .i64 ((rd_T97 l0 x8_1).f0))).setCell ⟨gb183, 1, none⟩ (.int .i64 ((rd_T97 l0 x8_1).f1.f0))).setCell ⟨gb183, 2, none⟩ (.int .i64 ((rd_T97 l0 x8_1).f1.f1))).setCell ⟨gb183, 3, none⟩ (.int .i64 ((rd_T97 l0 x8_1).f2))).setCell ⟨gb183, 4, none⟩ (.int .i64 ((rd_T97 l0 x8_1).f3))).setCell ⟨gb183, 5, none⟩ (.int .i64 ((rd_T97 l0 x8_1).f4.f0))).setCell ⟨gb183, 6, none⟩ (.int .i64 ((rd_T97 l0 x8_1).f4.f1))).setCell ⟨gb183, 7, none⟩ (.int .i64 ((rd_T97 l0 x8_1).f4.f2))).setCell ⟨gb183, 8, none⟩ (.int .i64 ((rd_T97 l0 x8_1).f4.f3))).heap[gb183]? = some (.cells #[.int .i64 ((rd_T97 l0 x8_1).f0), .int .i64 ((rd_T97 l0 x8_1).f1.f0), .int .i64 ((rd_T97 l0 x8_1).f1.f1), .int .i64 ((rd_T97 l0 x8_1).f2), .int .i64 ((rd_T97 l0 x8_1).f3), .int .i64 ((rd_T97 l0 x8_1).f4.f0), .int .i64 ((rd_T97 l0 x8_1).f4.f1), .int .i64 ((rd_T97 l0 x8_1).f4.f2), .int .i64 ((rd_T97 l0 x8_1).f4.f3)] 97 (0, 0))) := ⟨by (with_reducible repeat (first | refine blk_drewN ?_ _ | refine blk_drew ?_ | refine blk_alloc ?_ _)); refine blk_put (cs := #[.int .i64 ((rd_T97 l0 x8_1).f0), .int .i64 ((rd_T97 l0 x8_1).f1.f0), .int .i64 ((rd_T97 l0 x8_1).f1.f1), .int .i64 ((rd_T97 l0 x8_1).f2), .int .i64 ((rd_T97 l0 x8_1).f3), .int .i64 ((rd_T97 l0 x8_1).f4.f0), .int .i64 ((rd_T97 l0 x8_1).f4.f1), .int .i64 ((rd_T97 l0 x8_1).f4.f2), .int .i64 0]) ?_ 8 _ rfl; (with_reducible repeat (first | refine blk_drewN ?_ _ | refine blk_drew ?_ | refine blk_alloc ?_ _)); refine blk_put (cs := #[.int .i64 ((rd_T97 l0 x8_1).f0), .int .i64 ((rd_T97 l0 x8_1).f1.f0), .int .i64 ((rd_T97 l0 x8_1).f1.f1), .int .i64 ((rd_T97 l0 x8_1).f2), .int .i64 ((rd_T97 l0 x8_1).f3), .int .i64 ((rd_T97 l0 x8_1).f4.f0), .int .i64 ((rd_T97 l0 x8_1).f4.f1), .int .i64 0, .int .i64 0]) ?_ 7 _ rfl; (with_reducible repeat (first | refine blk_drewN ?_ _ | refine blk_drew ?_ | refine blk_alloc ?_ _)); refine blk_put (cs := #[.int .i64 ((rd_T97 l0 x8_1).f0), .int .i64 ((rd_T97 l0 x8_1).f1.f0), .int .i64 ((rd_T97 l0 x8_1).f1.f1), .int .i64 ((rd_T97 l0 x8_1).f2), .int .i64 ((rd_T97 l0 x8_1).f3), .int .i64 ((rd_T97 l0 x8_1).f4.f0), .int .i64 0, .int .i64 0, .int .i64 0]) ?_ 6 _ rfl; (with_reducible repeat (first | refine blk_drewN ?_ _ | refine blk_drew ?_ | refine blk_alloc ?_ _)); refine blk_put (cs := #[.int .i64 ((rd_T97 l0 x8_1).f0), .int .i64 ((rd_T97 l0 x8_1).f1.f0), .int .i64 ((rd_T97 l0 x8_1).f1.f1), .int .i64 ((rd_T97 l0 x8_1).f2), .int .i64 ((rd_T97 l0 x8_1).f3), .int .i64 0, .int .i64 0, .int .i64 0, .int .i64 0]) ?_ 5 _ rfl; (with_reducible repeat (first | refine blk_drewN ?_ _ | refine blk_drew ?_ | refine blk_alloc ?_ _)); refine blk_put (cs := #[.int .i64 ((rd_T97 l0 x8_1).f0), .int .i64 ((rd_T97 l0 x8_1).f1.f0), .int .i64 ((rd_T97 l0 x8_1).f1.f1), .int .i64 ((rd_T97 l0 x8_1).f2), .int .i64 0, .int .i64 0, .int .i64 0, .int .i64 0, .int .i64 0]) ?_ 4 _ rfl; (with_reducible repeat (first | refine blk_drewN ?_ _ | refine blk_drew ?_ | refine blk_alloc ?_ _)); refine blk_put (cs := #[.int .i64 ((rd_T97 l0 x8_1).f0), .int .i64 ((rd_T97 l0 x8_1).f1.f0), .int .i64 ((rd_T97 l0 x8_1).f1.f1), .int .i64 0, .int .i64 0, .int .i64 0, .int .i64 0, .int .i64 0, .int .i64 0]) ?_ 3 _ rfl; (with_reducible repeat (first | refine blk_drewN ?_ _ | refine blk_drew ?_ | refine blk_alloc ?_ _)); refine blk_put (cs := #[.int .i64 ((rd_T97 l0 x8_1).f0), .int .i64 ((rd_T97 l0 x8_1).f1.f0), .int .i64 0, .int .i64 0, .int .i64 0, .int .i64 0, .int .i64 0, .int .i64 0, .int .i64 0]) ?_ 2 _ rfl; (with_reducible repeat (first | refine blk_drewN ?_ _ | refine blk_drew ?_ | refine blk_alloc ?_ _)); refine blk_put (cs := #[.int .i64 ((rd_T97 l0 x8_1).f0), .int .i64 0, .int .i64 0, .int .i64 0, .int .i64 0, .int .i64 0, .int .i64 0, .int .i64 0, .int .i64 0]) ?_ 1 _ rfl; (with_reducible repeat (first | refine blk_drewN ?_ _ | refine blk_drew ?_ | refine blk_alloc ?_ _)); refine blk_put (cs := #[.int .i64 0, .int .i64 0, .int .i64 0, .int .i64 0, .int .i64 0, .int .i64 0, .int .i64 0, .int .i64 0, .int .i64 0]) ?_ 0 _ rfl; (with_reducible repeat (first | refine blk_drewN ?_ _ | refine blk_drew ?_ | refine blk_alloc ?_ _)); exact BK183.out⟩
                  have n1_ : Aside0 (Below w.heap.size w (((((((((w35.setCell ⟨gb183, 0, none⟩ (.int .i64 ((rd_T97 l0 x8_1).f0))).setCell ⟨gb183, 1, none⟩ (.int .i64 ((rd_T97 l0 x8_1).f1.f0))).setCell ⟨gb183, 2, none⟩ (.int .i64 ((rd_T97 l0 x8_1).f1.f1))).setCell ⟨gb183, 3, none⟩ (.int .i64 ((rd_T97 l0 x8_1).f2))).setCell ⟨gb183, 4, none⟩ (.int .i64 ((rd_T97 l0 x8_1).f3))).setCell ⟨gb183, 5, none⟩ (.int .i64 ((rd_T97 l0 x8_1).f4.f0))).setCell ⟨gb183, 6, none⟩ (.int .i64 ((rd_T97 l0 x8_1).f4.f1))).setCell ⟨gb183, 7, none⟩ (.int .i64 ((rd_T97 l0 x8_1).f4.f2))).setCell ⟨gb183, 8, none⟩ (.int .i64 ((rd_T97 l0 x8_1).f4.f3)))) := ⟨by repeat (first | (with_reducible first | exact HB.out | apply below_alloc | apply pw_below_drewN | apply below_drew1 | refine below_set ?_ GE183.out) | exact HB.out)⟩
                  (try clear BK183)
                  (try clear HB)
                  generalize (((((((((w35.setCell ⟨gb183, 0, none⟩ (.int .i64 ((rd_T97 l0 x8_1).f0))).setCell ⟨gb183, 1, none⟩ (.int .i64 ((rd_T97 l0 x8_1).f1.f0))).setCell ⟨gb183, 2, none⟩ (.int .i64 ((rd_T97 l0 x8_1).f1.f1))).setCell ⟨gb183, 3, none⟩ (.int .i64 ((rd_T97 l0 x8_1).f2))).setCell ⟨gb183, 4, none⟩ (.int .i64 ((rd_T97 l0 x8_1).f3))).setCell ⟨gb183, 5, none⟩ (.int .i64 ((rd_T97 l0 x8_1).f4.f0))).setCell ⟨gb183, 6, none⟩ (.int .i64 ((rd_T97 l0 x8_1).f4.f1))).setCell ⟨gb183, 7, none⟩ (.int .i64 ((rd_T97 l0 x8_1).f4.f2))).setCell ⟨gb183, 8, none⟩ (.int .i64 ((rd_T97 l0 x8_1).f4.f3))) = w37 at n0_ n1_ ⊢
                  have BK183 := n0_
                  have HB := n1_
                  clear n0_ n1_
                  have n0_ := Aside0.mk (blk_drew BK183.out)
                  have n1_ := Aside0.mk (below_drew1 HB.out)
                  clear BK183
                  clear HB
                  have BK183 := n0_
                  have HB := n1_
                  clear n0_ n1_
                  have q39 : (x8_1 : Int) ≤ ((l0.length : Int) : Int) := of_decide_eq_true (by first | (with_reducible assumption) | assumption)
                  obtain ⟨i039, hi039, _, hsz39, _⟩ := info_parts info97
                  have hroom39 : l0.length ≤ c0 := HC0.out
                  have hC39 : Kd.C k97 _ (some ad182) l0.length l0 := HR0.out
                  have hcut39 := cut_to (P := Try.prog) 64 97 .i64 Try.underlying64 hi039 (some ad182) l0.length c0 x8_1 (of_decide_eq_true (by first | (with_reducible assumption) | assumption)) q39 hroom39
                  have hr39 := Kd.C_take (m := (x8_1 : Int).toNat) hC39 (by omega)
                  have hy39 : y184.length = (x8_1 : Int).toNat := (by rw [Ny184.out, List.length_take]; omega)
                  rw [← Ny184.out] at hr39
                  rw [← hy39] at hcut39
                  have HR187 := Aside0.mk hr39
                  have HC187 := Aside0.mk (show y184.length ≤ c0 from by omega)
                  clear hr39 hC39 hroom39 hi039 hsz39
                  have KY39 := Aside0.mk hy39
                  clear hy39
                  replace q39 := eq_true q39
                  refine start_ (n := 9) (S := fun w' => w'.cell? ⟨gb183, 0, none⟩ = some (.int .i64 ((rd_T97 l0 x8_1).f0)) ∧ w'.cell? ⟨gb183, 1, none⟩ = some (.int .i64 ((rd_T97 l0 x8_1).f1.f0)) ∧ w'.cell? ⟨gb183, 2, none⟩ = some (.int .i64 ((rd_T97 l0 x8_1).f1.f1)) ∧ w'.cell? ⟨gb183, 3, none⟩ = some (.int .i64 ((rd_T97 l0 x8_1).f2)) ∧ w'.cell? ⟨gb183, 4, none⟩ = some (.int .i64 ((rd_T97 l0 x8_1).f3)) ∧ w'.cell? ⟨gb183, 5, none⟩ = some (.int .i64 ((rd_T97 l0 x8_1).f4.f0)) ∧ w'.cell? ⟨gb183, 6, none⟩ = some (.int .i64 ((rd_T97 l0 x8_1).f4.f1)) ∧ w'.cell? ⟨gb183, 7, none⟩ = some (.int .i64 ((rd_T97 l0 x8_1).f4.f2)) ∧ w'.cell? ⟨gb183, 8, none⟩ = some (.int .i64 ((rd_T97 l0 x8_1).f4.f3))) (ds := []) #[false, false, false, false, false, false, false, false, false] (by kernel_rfl) rfl rfl ⟨(blk_cell BK183.out 0).trans rfl, (blk_cell BK183.out 1).trans rfl, (blk_cell BK183.out 2).trans rfl, (blk_cell BK183.out 3).trans rfl, (blk_cell BK183.out 4).trans rfl, (blk_cell BK183.out 5).trans rfl, (blk_cell BK183.out 6).trans rfl, (blk_cell BK183.out 7).trans rfl, (blk_cell BK183.out 8).trans rfl⟩ (fun hHeld => ?_); refine with_tabW impl_PanSound.tab4 impl_PanSound.bits4 (fun HT_ HW_ => ?_)
                  generalize w37.drew = w38 at BK183 HB HR187 hHeld ⊢
                  refine pure_ (i := 0) (N := some 13) (v := ?_) (a' := ?_) #[true, false, false, false, false, false, false, false, false] rfl rfl (any_of HT_.out (by kernel_rfl)) (fun _ _ _ h => h) (Or.inl ⟨by rfl, ?_⟩) ?_ ?_
                  rotate_left
                  · intro w'
                    go_simp
                    with_reducible rfl
                  rotate_left
                  · simp only [Act.put, List.setIfInBounds_toArray, List.set_cons_zero, List.set_cons_succ, i64_w, i32_w]
                    rfl
                  refine pure_ (i := 1) (N := some 14) (v := ?_) (a' := ?_) #[true, true, false, false, false, false, false, false, false] rfl rfl (any_of HT_.out (by kernel_rfl)) (fun _ _ _ h => h) (Or.inl ⟨by rfl, ?_⟩) ?_ ?_
                  rotate_left
                  · intro w'
                    go_simp
                    with_reducible rfl
                  rotate_left
                  · simp only [Act.put, List.setIfInBounds_toArray, List.set_cons_zero, List.set_cons_succ, i64_w, i32_w]
                    rfl
                  refine pure_ (i := 2) (N := some 15) (v := ?_) (a' := ?_) #[true, true, true, false, false, false, false, false, false] rfl rfl (any_of HT_.out (by kernel_rfl)) (fun _ _ _ h => h) (Or.inl ⟨by rfl, ?_⟩) ?_ ?_
                  rotate_left
                  · intro w'
                    go_simp
                    with_reducible rfl
                  rotate_left
                  · simp only [Act.put, List.setIfInBounds_toArray, List.set_cons_zero, List.set_cons_succ, i64_w, i32_w]
                    rfl
                  refine pure_ (i := 3) (N := some 16) (v := ?_) (a' := ?_) #[true, true, true, true, false, false, false, false, false] rfl rfl (any_of HT_.out (by kernel_rfl)) (fun _ _ _ h => h) (Or.inl ⟨by rfl, ?_⟩) ?_ ?_
                  rotate_left
                  · intro w'
                    go_simp
                    with_reducible rfl
                  rotate_left
                  · simp only [Act.put, List.setIfInBounds_toArray, List.set_cons_zero, List.set_cons_succ, i64_w, i32_w]
                    rfl
                  refine pure_ (i := 5) (N := some 18) (v := ?_) (a' := ?_) #[true, true, true, true, false, true, false, false, false] rfl rfl (any_of HT_.out (by kernel_rfl)) (fun _ _ _ h => h) (Or.inl ⟨by rfl, ?_⟩) ?_ ?_
                  rotate_left
                  · intro w'
                    go_simp
                    with_reducible rfl
                  rotate_left
                  · simp only [Act.put, List.setIfInBounds_toArray, List.set_cons_zero, List.set_cons_succ, i64_w, i32_w]
                    rfl
                  refine take_ (i := 4) (N := some 17) (v := ?_) (a' := ?_) #[true, true, true, true, true, true, false, false, false] rfl rfl (take_ofW HT_.out HW_.out (by kernel_rfl)) (fun _ _ _ h => h) (Or.inl ⟨by rfl, ?_⟩) hHeld ?_ ?_
                  rotate_left
                  · rintro w' ⟨s0, s1, s2, s3, s4, s5, s6, s7, s8⟩
                    go_simp
                    with_reducible rfl
                  rotate_left
                  · simp only [Act.put, List.setIfInBounds_toArray, List.set_cons_zero, List.set_cons_succ, i64_w, i32_w]
                    rfl
                  refine take_ (i := 6) (N := some 19) (v := ?_) (a' := ?_) #[true, true, true, true, true, true, true, false, false] rfl rfl (take_ofW HT_.out HW_.out (by kernel_rfl)) (fun _ _ _ h => h) (Or.inl ⟨by rfl, ?_⟩) hHeld ?_ ?_
                  rotate_left
                  · rintro w' ⟨s0, s1, s2, s3, s4, s5, s6, s7, s8⟩
                    go_simp
                    with_reducible rfl
                  rotate_left
                  · simp only [Act.put, List.setIfInBounds_toArray, List.set_cons_zero, List.set_cons_succ, i64_w, i32_w]
                    rfl
                  refine one_ (i := 7) (N := some 20) #[true, true, true, true, true, true, true, true, false] rfl rfl (one_of HT_.out (by kernel_rfl)) (by decide) (fun K hK => ?_)
                  refine goes_ Try.func45 (by kernel_rfl) rfl #[.slice (some ad182) y184.length c0, .int .i64 ((rd_T97 l0 x8_1).f0), .agg #[.int .i64 ((rd_T97 l0 x8_1).f1.f0), .int .i64 ((rd_T97 l0 x8_1).f1.f1)]] (by rfl) rfl rfl (by (try simp only [List.map_toArray, List.map_cons, List.map_nil]); first | done | rfl | (simp only [List.length_drop, List.length_take]; rfl)) ?_
                  with_reducible refine (impl_PanOf.calls k1 _ _ y184 ((rd_T97 l0 x8_1).f0) ((rd_T97 l0 x8_1).f1.f0) ((rd_T97 l0 x8_1).f1.f1) t188 _ ?side1 ?side2 A7.out).mono ?_
                  (case side1 => repeat (first | exact (Kd.C_below HR187.out HB.out) | (with_reducible refine Kd.C_alloc ?_ _) | (with_reducible refine Kd.C_drewN ?_ _) | (with_reducible refine Kd.C_drew ?_)))
                  (case side2 => exact HC187.out)
                  rintro e w40 ⟨v189, rfl, ho0, hb⟩
                  refine ⟨_, rfl, ?_⟩
                  have n0_ := Aside0.mk (Kd.R_lower (Kd.R_newB ho0 (g := gb183) (o := .cells #[.int .i64 ((rd_T97 l0 x8_1).f0), .int .i64 ((rd_T97 l0 x8_1).f1.f0), .int .i64 ((rd_T97 l0 x8_1).f1.f1), .int .i64 ((rd_T97 l0 x8_1).f2), .int .i64 ((rd_T97 l0 x8_1).f3), .int .i64 ((rd_T97 l0 x8_1).f4.f0), .int .i64 ((rd_T97 l0 x8_1).f4.f1), .int .i64 ((rd_T97 l0 x8_1).f4.f2), .int .i64 ((rd_T97 l0 x8_1).f4.f3)] 97 (0, 0)) (by (with_reducible repeat (first | refine blk_drewN ?_ _ | refine blk_drew ?_ | refine blk_alloc ?_ _)); exact BK183.out)) (below_size (by repeat (first | (with_reducible first | exact HB.out | apply below_alloc | apply pw_below_drewN | apply below_drew1 | refine below_set ?_ GE183.out) | exact HB.out))))
                  have n1_ := Aside0.mk (blk_below (g := gb183) (o := .cells #[.int .i64 ((rd_T97 l0 x8_1).f0), .int .i64 ((rd_T97 l0 x8_1).f1.f0), .int .i64 ((rd_T97 l0 x8_1).f1.f1), .int .i64 ((rd_T97 l0 x8_1).f2), .int .i64 ((rd_T97 l0 x8_1).f3), .int .i64 ((rd_T97 l0 x8_1).f4.f0), .int .i64 ((rd_T97 l0 x8_1).f4.f1), .int .i64 ((rd_T97 l0 x8_1).f4.f2), .int .i64 ((rd_T97 l0 x8_1).f4.f3)] 97 (0, 0)) (by (with_reducible repeat (first | refine blk_drewN ?_ _ | refine blk_drew ?_ | refine blk_alloc ?_ _)); exact BK183.out) hb)
                  have n2_ := Aside0.mk (below_step (by repeat (first | (with_reducible first | exact HB.out | apply below_alloc | apply pw_below_drewN | apply below_drew1 | refine below_set ?_ GE183.out) | exact HB.out)) hb)
                  clear BK183
                  clear HB
                  have HO190 := n0_
                  have BK183 := n1_
                  have HB := n2_
                  clear n0_ n1_ n2_
                  (try clear hb)
                  (try clear hb2)
                  (try clear hk)
                  (try clear hi)
                  (try clear ho0)
                  refine hK.out _ _ ⟨(blk_cell BK183.out 0).trans rfl, (blk_cell BK183.out 1).trans rfl, (blk_cell BK183.out 2).trans rfl, (blk_cell BK183.out 3).trans rfl, (blk_cell BK183.out 4).trans rfl, (blk_cell BK183.out 5).trans rfl, (blk_cell BK183.out 6).trans rfl, (blk_cell BK183.out 7).trans rfl, (blk_cell BK183.out 8).trans rfl⟩ (fun hHeld => ?_)
                  clear hK K
                  refine norm_ (a' := ?_) ?_ ?_
                  rotate_left
                  · show Act.put _ (some 20) _ = _
                    simp only [Act.put, List.setIfInBounds_toArray, List.set_cons_zero, List.set_cons_succ, i64_w, i32_w]
                    rfl
                  refine pure_ (i := 8) (N := some 5) (v := ?_) (a' := ?_) #[true, true, true, true, true, true, true, true, true] rfl rfl (any_of HT_.out (by kernel_rfl)) (fun _ _ _ h => h) (Or.inl ⟨by rfl, ?_⟩) ?_ ?_
                  rotate_left
                  · intro w'
                    go_simp
                    with_reducible rfl
                  rotate_left
                  · simp only [Act.put, List.setIfInBounds_toArray, List.set_cons_zero, List.set_cons_succ, i64_w, i32_w]
                    rfl
                  refine done_ (done_of HT_.out (by kernel_rfl)) ?_
                  have hcz41_0 : w40.cell? ⟨gb183, 0, none⟩ = some (.int .i64 ((rd_T97 l0 x8_1).f0)) := (blk_cell BK183.out 0).trans rfl
                  have hcz41_1 : w40.cell? ⟨gb183, 1, none⟩ = some (.int .i64 ((rd_T97 l0 x8_1).f1.f0)) := (blk_cell BK183.out 1).trans rfl
                  have hcz41_2 : w40.cell? ⟨gb183, 2, none⟩ = some (.int .i64 ((rd_T97 l0 x8_1).f1.f1)) := (blk_cell BK183.out 2).trans rfl
                  have hcz41_3 : w40.cell? ⟨gb183, 3, none⟩ = some (.int .i64 ((rd_T97 l0 x8_1).f2)) := (blk_cell BK183.out 3).trans rfl
                  have hcz41_4 : w40.cell? ⟨gb183, 4, none⟩ = some (.int .i64 ((rd_T97 l0 x8_1).f3)) := (blk_cell BK183.out 4).trans rfl
                  have hcz41_5 : w40.cell? ⟨gb183, 5, none⟩ = some (.int .i64 ((rd_T97 l0 x8_1).f4.f0)) := (blk_cell BK183.out 5).trans rfl
                  have hcz41_6 : w40.cell? ⟨gb183, 6, none⟩ = some (.int .i64 ((rd_T97 l0 x8_1).f4.f1)) := (blk_cell BK183.out 6).trans rfl
                  have hcz41_7 : w40.cell? ⟨gb183, 7, none⟩ = some (.int .i64 ((rd_T97 l0 x8_1).f4.f2)) := (blk_cell BK183.out 7).trans rfl
                  have hcz41_8 : w40.cell? ⟨gb183, 8, none⟩ = some (.int .i64 ((rd_T97 l0 x8_1).f4.f3)) := (blk_cell BK183.out 8).trans rfl
                  have hfz41_0 := blk_frozen BK183.out 0
                  have hfz41_1 := blk_frozen BK183.out 1
                  have hfz41_2 := blk_frozen BK183.out 2
                  have hfz41_3 := blk_frozen BK183.out 3
                  have hfz41_4 := blk_frozen BK183.out 4
                  have hfz41_5 := blk_frozen BK183.out 5
                  have hfz41_6 := blk_frozen BK183.out 6
                  have hfz41_7 := blk_frozen BK183.out 7
                  have hfz41_8 := blk_frozen BK183.out 8
                  try go_wp2_with (first | ((with_reducible refine gate_callee (f := 68) rfl ?_); refine goesL_ (some 22) rfl rfl Try.func68 (by kernel_rfl) rfl #[.agg #[.int .i64 ((rd_T97 l0 x8_1).f0), .int .i64 ((rd_T97 l0 x8_1).f1.f0), .int .i64 ((rd_T97 l0 x8_1).f1.f1), .int .i64 ((rd_T97 l0 x8_1).f2), .int .i64 ((rd_T97 l0 x8_1).f3), .int .i64 ((rd_T97 l0 x8_1).f4.f0), .int .i64 ((rd_T97 l0 x8_1).f4.f1), .int .i64 ((rd_T97 l0 x8_1).f4.f2), .int .i64 ((rd_T97 l0 x8_1).f4.f3)]] rfl (by (try simp only [List.map_toArray, List.map_cons, List.map_nil]); first | done | rfl | (simp only [List.length_drop, List.length_take]; rfl)) ?_; (with_reducible refine (impl_PanOk.calls k1 ((rd_T97 l0 x8_1).f0) ((rd_T97 l0 x8_1).f1.f0) ((rd_T97 l0 x8_1).f1.f1) ((rd_T97 l0 x8_1).f2) ((rd_T97 l0 x8_1).f3) ((rd_T97 l0 x8_1).f4.f0) ((rd_T97 l0 x8_1).f4.f1) ((rd_T97 l0 x8_1).f4.f2) ((rd_T97 l0 x8_1).f4.f3) true _ A8.out).mono ?_); rintro e w42 ⟨rfl, hb⟩; refine ⟨_, rfl, ?_⟩; have n0_ := Aside0.mk (Kd.R_below (by (with_reducible repeat (first | apply Kd.R_alloc | apply Kd.R_drewN | apply Kd.R_drew)); exact HO190.out) hb); have n1_ := Aside0.mk (blk_below (g := gb183) (o := .cells #[.int .i64 ((rd_T97 l0 x8_1).f0), .int .i64 ((rd_T97 l0 x8_1).f1.f0), .int .i64 ((rd_T97 l0 x8_1).f1.f1), .int .i64 ((rd_T97 l0 x8_1).f2), .int .i64 ((rd_T97 l0 x8_1).f3), .int .i64 ((rd_T97 l0 x8_1).f4.f0), .int .i64 ((rd_T97 l0 x8_1).f4.f1), .int .i64 ((rd_T97 l0 x8_1).f4.f2), .int .i64 ((rd_T97 l0 x8_1).f4.f3)] 97 (0, 0)) (by (with_reducible repeat (first | refine blk_drewN ?_ _ | refine blk_drew ?_ | refine blk_alloc ?_ _)); exact BK183.out) hb); have n2_ := Aside0.mk (below_step (by repeat (first | (with_reducible first | exact HB.out | apply below_alloc | apply pw_below_drewN | apply below_drew1 | refine below_set ?_ GE183.out) | exact HB.out)) hb); clear HO190; clear BK183; clear HB; have HO190 := n0_; have BK183 := n1_; have HB := n2_; clear n0_ n1_ n2_; (try clear hb); (try clear hb2); (try clear hk); (try clear hi); have hcz43_0 : w42.cell? ⟨gb183, 0, none⟩ = some (.int .i64 ((rd_T97 l0 x8_1).f0)) := (blk_cell BK183.out 0).trans rfl; have hcz43_1 : w42.cell? ⟨gb183, 1, none⟩ = some (.int .i64 ((rd_T97 l0 x8_1).f1.f0)) := (blk_cell BK183.out 1).trans rfl; have hcz43_2 : w42.cell? ⟨gb183, 2, none⟩ = some (.int .i64 ((rd_T97 l0 x8_1).f1.f1)) := (blk_cell BK183.out 2).trans rfl; have hcz43_3 : w42.cell? ⟨gb183, 3, none⟩ = some (.int .i64 ((rd_T97 l0 x8_1).f2)) := (blk_cell BK183.out 3).trans rfl; have hcz43_4 : w42.cell? ⟨gb183, 4, none⟩ = some (.int .i64 ((rd_T97 l0 x8_1).f3)) := (blk_cell BK183.out 4).trans rfl; have hcz43_5 : w42.cell? ⟨gb183, 5, none⟩ = some (.int .i64 ((rd_T97 l0 x8_1).f4.f0)) := (blk_cell BK183.out 5).trans rfl; have hcz43_6 : w42.cell? ⟨gb183, 6, none⟩ = some (.int .i64 ((rd_T97 l0 x8_1).f4.f1)) := (blk_cell BK183.out 6).trans rfl; have hcz43_7 : w42.cell? ⟨gb183, 7, none⟩ = some (.int .i64 ((rd_T97 l0 x8_1).f4.f2)) := (blk_cell BK183.out 7).trans rfl; have hcz43_8 : w42.cell? ⟨gb183, 8, none⟩ = some (.int .i64 ((rd_T97 l0 x8_1).f4.f3)) := (blk_cell BK183.out 8).trans rfl; have hfz43_0 := blk_frozen BK183.out 0; have hfz43_1 := blk_frozen BK183.out 1; have hfz43_2 := blk_frozen BK183.out 2; have hfz43_3 := blk_frozen BK183.out 3; have hfz43_4 := blk_frozen BK183.out 4; have hfz43_5 := blk_frozen BK183.out 5; have hfz43_6 := blk_frozen BK183.out 6; have hfz43_7 := blk_frozen BK183.out 7; have hfz43_8 := blk_frozen BK183.out 8; obtain ⟨Ao44, co44, eo44⟩ := Kd.R_slice HO190.out; subst eo44))
                  go_ret
                  exact ⟨by first | rfl | (simp [errW_none, errW_some] <;> rfl) | (simp [*, errW_none, errW_some] <;> rfl), by repeat (first | (with_reducible first | exact HB.out | apply below_alloc | apply pw_below_drewN | apply below_drew1 | refine below_set ?_ GE183.out) | exact HB.out)⟩
              · replace c9 := Bool.eq_false_iff.mpr c9
                subst c9
                have H1 : (some false) = some r := by rw [if_neg (show ¬ (false = true) by decide)] at H; exact H
                clear H
                have H := H1
                clear H1
                obtain rfl := Option.some.inj H
                have p182 : 0 ≤ (x8_1 : Int) := of_decide_eq_true (by first | (with_reducible assumption) | assumption)
                have q182 : x8_1 < (l0.length : Int) := of_decide_eq_true (by first | (with_reducible assumption) | assumption)
                obtain ⟨ad182, e182, hx182_0, hx182_1, hx182_2, hx182_3, hx182_4, hx182_5, hx182_6, hx182_7, hx182_8⟩ := at_T97 HR0.out x8_1 p182 q182
                cases e182
                replace hx182_0 := (HB.out.cell (World.block_lt_of_cell? w _ hx182_0)).trans hx182_0
                replace hx182_1 := (HB.out.cell (World.block_lt_of_cell? w _ hx182_1)).trans hx182_1
                replace hx182_2 := (HB.out.cell (World.block_lt_of_cell? w _ hx182_2)).trans hx182_2
                replace hx182_3 := (HB.out.cell (World.block_lt_of_cell? w _ hx182_3)).trans hx182_3
                replace hx182_4 := (HB.out.cell (World.block_lt_of_cell? w _ hx182_4)).trans hx182_4
                replace hx182_5 := (HB.out.cell (World.block_lt_of_cell? w _ hx182_5)).trans hx182_5
                replace hx182_6 := (HB.out.cell (World.block_lt_of_cell? w _ hx182_6)).trans hx182_6
                replace hx182_7 := (HB.out.cell (World.block_lt_of_cell? w _ hx182_7)).trans hx182_7
                replace hx182_8 := (HB.out.cell (World.block_lt_of_cell? w _ hx182_8)).trans hx182_8
                replace p182 := eq_true p182
                replace q182 := eq_true q182
                try go_wp2_with (first | ((with_reducible refine gate_dst (N := 4) rfl ?_); (try (refine gate_guard (by rfl) ?_; dsimp only)); refine box_event ?hg (N := 4) ?hd (cs := #[.int .i64 0, .int .i64 0, .int .i64 0, .int .i64 0, .int .i64 0, .int .i64 0, .int .i64 0, .int .i64 0, .int .i64 0]) (t := 97) ?hr ?_; (case hd => rfl); (case hg => rfl); (case hr => first | (go_simp; done) | (go_simp; rfl)); intro gb183 hg w45 hbox hb; have n0_ := Aside0.mk (below_step (by repeat (first | (with_reducible first | exact HB.out | apply below_alloc | apply pw_below_drewN | apply below_drew1) | exact HB.out)) hb); have n1_ := Aside0.mk (hbox); have n2_ := Aside0.mk ((by rw [hg]; exact (below_size (by repeat (first | (with_reducible first | exact HB.out | apply below_alloc | apply pw_below_drewN | apply below_drew1) | exact HB.out))) : w.heap.size ≤ gb183)); have n3_ := Aside0.mk ((by rw [hg]; exact (below_size (by repeat (first | (with_reducible first | exact HB.out | apply below_alloc | apply pw_below_drewN | apply below_drew1) | exact HB.out))) : w.heap.size ≤ gb183)); clear HB; have HB := n0_; have BK183 := n1_; have GW183 := n2_; have GE183 := n3_; clear n0_ n1_ n2_ n3_; clear hb hbox hg; have hcz46_0 : w45.cell? ⟨gb183, 0, none⟩ = some (.int .i64 0) := (blk_cell BK183.out 0).trans rfl; have hcz46_1 : w45.cell? ⟨gb183, 1, none⟩ = some (.int .i64 0) := (blk_cell BK183.out 1).trans rfl; have hcz46_2 : w45.cell? ⟨gb183, 2, none⟩ = some (.int .i64 0) := (blk_cell BK183.out 2).trans rfl; have hcz46_3 : w45.cell? ⟨gb183, 3, none⟩ = some (.int .i64 0) := (blk_cell BK183.out 3).trans rfl; have hcz46_4 : w45.cell? ⟨gb183, 4, none⟩ = some (.int .i64 0) := (blk_cell BK183.out 4).trans rfl; have hcz46_5 : w45.cell? ⟨gb183, 5, none⟩ = some (.int .i64 0) := (blk_cell BK183.out 5).trans rfl; have hcz46_6 : w45.cell? ⟨gb183, 6, none⟩ = some (.int .i64 0) := (blk_cell BK183.out 6).trans rfl; have hcz46_7 : w45.cell? ⟨gb183, 7, none⟩ = some (.int .i64 0) := (blk_cell BK183.out 7).trans rfl; have hcz46_8 : w45.cell? ⟨gb183, 8, none⟩ = some (.int .i64 0) := (blk_cell BK183.out 8).trans rfl; have hfz46_0 := blk_frozen BK183.out 0; have hfz46_1 := blk_frozen BK183.out 1; have hfz46_2 := blk_frozen BK183.out 2; have hfz46_3 := blk_frozen BK183.out 3; have hfz46_4 := blk_frozen BK183.out 4; have hfz46_5 := blk_frozen BK183.out 5; have hfz46_6 := blk_frozen BK183.out 6; have hfz46_7 := blk_frozen BK183.out 7; have hfz46_8 := blk_frozen BK183.out 8))
                have n0_ : Aside0 ((((((((((w45.setCell ⟨gb183, 0, none⟩ (.int .i64 ((rd_T97 l0 x8_1).f0))).setCell ⟨gb183, 1, none⟩ (.int .i64 ((rd_T97 l0 x8_1).f1.f0))).setCell ⟨gb183, 2, none⟩ (.int .i64 ((rd_T97 l0 x8_1).f1.f1))).setCell ⟨gb183, 3, none⟩ (.int .i64 ((rd_T97 l0 x8_1).f2))).setCell ⟨gb183, 4, none⟩ (.int .i64 ((rd_T97 l0 x8_1).f3))).setCell ⟨gb183, 5, none⟩ (.int .i64 ((rd_T97 l0 x8_1).f4.f0))).setCell ⟨gb183, 6, none⟩ (.int .i64 ((rd_T97 l0 x8_1).f4.f1))).setCell ⟨gb183, 7, none⟩ (.int .i64 ((rd_T97 l0 x8_1).f4.f2))).setCell ⟨gb183, 8, none⟩ (.int .i64 ((rd_T97 l0 x8_1).f4.f3))).heap[gb183]? = some (.cells #[.int .i64 ((rd_T97 l0 x8_1).f0), .int .i64 ((rd_T97 l0 x8_1).f1.f0), .int .i64 ((rd_T97 l0 x8_1).f1.f1), .int .i64 ((rd_T97 l0 x8_1).f2), .int .i64 ((rd_T97 l0 x8_1).f3), .int .i64 ((rd_T97 l0 x8_1).f4.f0), .int .i64 ((rd_T97 l0 x8_1).f4.f1), .int .i64 ((rd_T97 l0 x8_1).f4.f2), .int .i64 ((rd_T97 l0 x8_1).f4.f3)] 97 (0, 0))) := ⟨by (with_reducible repeat (first | refine blk_drewN ?_ _ | refine blk_drew ?_ | refine blk_alloc ?_ _)); refine blk_put (cs := #[.int .i64 ((rd_T97 l0 x8_1).f0), .int .i64 ((rd_T97 l0 x8_1).f1.f0), .int .i64 ((rd_T97 l0 x8_1).f1.f1), .int .i64 ((rd_T97 l0 x8_1).f2), .int .i64 ((rd_T97 l0 x8_1).f3), .int .i64 ((rd_T97 l0 x8_1).f4.f0), .int .i64 ((rd_T97 l0 x8_1).f4.f1), .int .i64 ((rd_T97 l0 x8_1).f4.f2), .int .i64 0]) ?_ 8 _ rfl; (with_reducible repeat (first | refine blk_drewN ?_ _ | refine blk_drew ?_ | refine blk_alloc ?_ _)); refine blk_put (cs := #[.int .i64 ((rd_T97 l0 x8_1).f0), .int .i64 ((rd_T97 l0 x8_1).f1.f0), .int .i64 ((rd_T97 l0 x8_1).f1.f1), .int .i64 ((rd_T97 l0 x8_1).f2), .int .i64 ((rd_T97 l0 x8_1).f3), .int .i64 ((rd_T97 l0 x8_1).f4.f0), .int .i64 ((rd_T97 l0 x8_1).f4.f1), .int .i64 0, .int .i64 0]) ?_ 7 _ rfl; (with_reducible repeat (first | refine blk_drewN ?_ _ | refine blk_drew ?_ | refine blk_alloc ?_ _)); refine blk_put (cs := #[.int .i64 ((rd_T97 l0 x8_1).f0), .int .i64 ((rd_T97 l0 x8_1).f1.f0), .int .i64 ((rd_T97 l0 x8_1).f1.f1), .int .i64 ((rd_T97 l0 x8_1).f2), .int .i64 ((rd_T97 l0 x8_1).f3), .int .i64 ((rd_T97 l0 x8_1).f4.f0), .int .i64 0, .int .i64 0, .int .i64 0]) ?_ 6 _ rfl; (with_reducible repeat (first | refine blk_drewN ?_ _ | refine blk_drew ?_ | refine blk_alloc ?_ _)); refine blk_put (cs := #[.int .i64 ((rd_T97 l0 x8_1).f0), .int .i64 ((rd_T97 l0 x8_1).f1.f0), .int .i64 ((rd_T97 l0 x8_1).f1.f1), .int .i64 ((rd_T97 l0 x8_1).f2), .int .i64 ((rd_T97 l0 x8_1).f3), .int .i64 0, .int .i64 0, .int .i64 0, .int .i64 0]) ?_ 5 _ rfl; (with_reducible repeat (first | refine blk_drewN ?_ _ | refine blk_drew ?_ | refine blk_alloc ?_ _)); refine blk_put (cs := #[.int .i64 ((rd_T97 l0 x8_1).f0), .int .i64 ((rd_T97 l0 x8_1).f1.f0), .int .i64 ((rd_T97 l0 x8_1).f1.f1), .int .i64 ((rd_T97 l0 x8_1).f2), .int .i64 0, .int .i64 0, .int .i64 0, .int .i64 0, .int .i64 0]) ?_ 4 _ rfl; (with_reducible repeat (first | refine blk_drewN ?_ _ | refine blk_drew ?_ | refine blk_alloc ?_ _)); refine blk_put (cs := #[.int .i64 ((rd_T97 l0 x8_1).f0), .int .i64 ((rd_T97 l0 x8_1).f1.f0), .int .i64 ((rd_T97 l0 x8_1).f1.f1), .int .i64 0, .int .i64 0, .int .i64 0, .int .i64 0, .int .i64 0, .int .i64 0]) ?_ 3 _ rfl; (with_reducible repeat (first | refine blk_drewN ?_ _ | refine blk_drew ?_ | refine blk_alloc ?_ _)); refine blk_put (cs := #[.int .i64 ((rd_T97 l0 x8_1).f0), .int .i64 ((rd_T97 l0 x8_1).f1.f0), .int .i64 0, .int .i64 0, .int .i64 0, .int .i64 0, .int .i64 0, .int .i64 0, .int .i64 0]) ?_ 2 _ rfl; (with_reducible repeat (first | refine blk_drewN ?_ _ | refine blk_drew ?_ | refine blk_alloc ?_ _)); refine blk_put (cs := #[.int .i64 ((rd_T97 l0 x8_1).f0), .int .i64 0, .int .i64 0, .int .i64 0, .int .i64 0, .int .i64 0, .int .i64 0, .int .i64 0, .int .i64 0]) ?_ 1 _ rfl; (with_reducible repeat (first | refine blk_drewN ?_ _ | refine blk_drew ?_ | refine blk_alloc ?_ _)); refine blk_put (cs := #[.int .i64 0, .int .i64 0, .int .i64 0, .int .i64 0, .int .i64 0, .int .i64 0, .int .i64 0, .int .i64 0, .int .i64 0]) ?_ 0 _ rfl; (with_reducible repeat (first | refine blk_drewN ?_ _ | refine blk_drew ?_ | refine blk_alloc ?_ _)); exact BK183.out⟩
                have n1_ : Aside0 (Below w.heap.size w (((((((((w45.setCell ⟨gb183, 0, none⟩ (.int .i64 ((rd_T97 l0 x8_1).f0))).setCell ⟨gb183, 1, none⟩ (.int .i64 ((rd_T97 l0 x8_1).f1.f0))).setCell ⟨gb183, 2, none⟩ (.int .i64 ((rd_T97 l0 x8_1).f1.f1))).setCell ⟨gb183, 3, none⟩ (.int .i64 ((rd_T97 l0 x8_1).f2))).setCell ⟨gb183, 4, none⟩ (.int .i64 ((rd_T97 l0 x8_1).f3))).setCell ⟨gb183, 5, none⟩ (.int .i64 ((rd_T97 l0 x8_1).f4.f0))).setCell ⟨gb183, 6, none⟩ (.int .i64 ((rd_T97 l0 x8_1).f4.f1))).setCell ⟨gb183, 7, none⟩ (.int .i64 ((rd_T97 l0 x8_1).f4.f2))).setCell ⟨gb183, 8, none⟩ (.int .i64 ((rd_T97 l0 x8_1).f4.f3)))) := ⟨by repeat (first | (with_reducible first | exact HB.out | apply below_alloc | apply pw_below_drewN | apply below_drew1 | refine below_set ?_ GE183.out) | exact HB.out)⟩
                (try clear BK183)
                (try clear HB)
                generalize (((((((((w45.setCell ⟨gb183, 0, none⟩ (.int .i64 ((rd_T97 l0 x8_1).f0))).setCell ⟨gb183, 1, none⟩ (.int .i64 ((rd_T97 l0 x8_1).f1.f0))).setCell ⟨gb183, 2, none⟩ (.int .i64 ((rd_T97 l0 x8_1).f1.f1))).setCell ⟨gb183, 3, none⟩ (.int .i64 ((rd_T97 l0 x8_1).f2))).setCell ⟨gb183, 4, none⟩ (.int .i64 ((rd_T97 l0 x8_1).f3))).setCell ⟨gb183, 5, none⟩ (.int .i64 ((rd_T97 l0 x8_1).f4.f0))).setCell ⟨gb183, 6, none⟩ (.int .i64 ((rd_T97 l0 x8_1).f4.f1))).setCell ⟨gb183, 7, none⟩ (.int .i64 ((rd_T97 l0 x8_1).f4.f2))).setCell ⟨gb183, 8, none⟩ (.int .i64 ((rd_T97 l0 x8_1).f4.f3))) = w47 at n0_ n1_ ⊢
                have BK183 := n0_
                have HB := n1_
                clear n0_ n1_
                have n0_ := Aside0.mk (blk_drew BK183.out)
                have n1_ := Aside0.mk (below_drew1 HB.out)
                clear BK183
                clear HB
                have BK183 := n0_
                have HB := n1_
                clear n0_ n1_
                have q49 : (x8_1 : Int) ≤ ((l0.length : Int) : Int) := of_decide_eq_true (by first | (with_reducible assumption) | assumption)
                obtain ⟨i049, hi049, _, hsz49, _⟩ := info_parts info97
                have hroom49 : l0.length ≤ c0 := HC0.out
                have hC49 : Kd.C k97 _ (some ad182) l0.length l0 := HR0.out
                have hcut49 := cut_to (P := Try.prog) 64 97 .i64 Try.underlying64 hi049 (some ad182) l0.length c0 x8_1 (of_decide_eq_true (by first | (with_reducible assumption) | assumption)) q49 hroom49
                have hr49 := Kd.C_take (m := (x8_1 : Int).toNat) hC49 (by omega)
                have hy49 : y184.length = (x8_1 : Int).toNat := (by rw [Ny184.out, List.length_take]; omega)
                rw [← Ny184.out] at hr49
                rw [← hy49] at hcut49
                have HR187 := Aside0.mk hr49
                have HC187 := Aside0.mk (show y184.length ≤ c0 from by omega)
                clear hr49 hC49 hroom49 hi049 hsz49
                have KY49 := Aside0.mk hy49
                clear hy49
                replace q49 := eq_true q49
                refine start_ (n := 9) (S := fun w' => w'.cell? ⟨gb183, 0, none⟩ = some (.int .i64 ((rd_T97 l0 x8_1).f0)) ∧ w'.cell? ⟨gb183, 1, none⟩ = some (.int .i64 ((rd_T97 l0 x8_1).f1.f0)) ∧ w'.cell? ⟨gb183, 2, none⟩ = some (.int .i64 ((rd_T97 l0 x8_1).f1.f1)) ∧ w'.cell? ⟨gb183, 3, none⟩ = some (.int .i64 ((rd_T97 l0 x8_1).f2)) ∧ w'.cell? ⟨gb183, 4, none⟩ = some (.int .i64 ((rd_T97 l0 x8_1).f3)) ∧ w'.cell? ⟨gb183, 5, none⟩ = some (.int .i64 ((rd_T97 l0 x8_1).f4.f0)) ∧ w'.cell? ⟨gb183, 6, none⟩ = some (.int .i64 ((rd_T97 l0 x8_1).f4.f1)) ∧ w'.cell? ⟨gb183, 7, none⟩ = some (.int .i64 ((rd_T97 l0 x8_1).f4.f2)) ∧ w'.cell? ⟨gb183, 8, none⟩ = some (.int .i64 ((rd_T97 l0 x8_1).f4.f3))) (ds := []) #[false, false, false, false, false, false, false, false, false] (by kernel_rfl) rfl rfl ⟨(blk_cell BK183.out 0).trans rfl, (blk_cell BK183.out 1).trans rfl, (blk_cell BK183.out 2).trans rfl, (blk_cell BK183.out 3).trans rfl, (blk_cell BK183.out 4).trans rfl, (blk_cell BK183.out 5).trans rfl, (blk_cell BK183.out 6).trans rfl, (blk_cell BK183.out 7).trans rfl, (blk_cell BK183.out 8).trans rfl⟩ (fun hHeld => ?_); refine with_tabW impl_PanSound.tab4 impl_PanSound.bits4 (fun HT_ HW_ => ?_)
                generalize w47.drew = w48 at BK183 HB HR187 hHeld ⊢
                refine pure_ (i := 0) (N := some 13) (v := ?_) (a' := ?_) #[true, false, false, false, false, false, false, false, false] rfl rfl (any_of HT_.out (by kernel_rfl)) (fun _ _ _ h => h) (Or.inl ⟨by rfl, ?_⟩) ?_ ?_
                rotate_left
                · intro w'
                  go_simp
                  with_reducible rfl
                rotate_left
                · simp only [Act.put, List.setIfInBounds_toArray, List.set_cons_zero, List.set_cons_succ, i64_w, i32_w]
                  rfl
                refine pure_ (i := 1) (N := some 14) (v := ?_) (a' := ?_) #[true, true, false, false, false, false, false, false, false] rfl rfl (any_of HT_.out (by kernel_rfl)) (fun _ _ _ h => h) (Or.inl ⟨by rfl, ?_⟩) ?_ ?_
                rotate_left
                · intro w'
                  go_simp
                  with_reducible rfl
                rotate_left
                · simp only [Act.put, List.setIfInBounds_toArray, List.set_cons_zero, List.set_cons_succ, i64_w, i32_w]
                  rfl
                refine pure_ (i := 2) (N := some 15) (v := ?_) (a' := ?_) #[true, true, true, false, false, false, false, false, false] rfl rfl (any_of HT_.out (by kernel_rfl)) (fun _ _ _ h => h) (Or.inl ⟨by rfl, ?_⟩) ?_ ?_
                rotate_left
                · intro w'
                  go_simp
                  with_reducible rfl
                rotate_left
                · simp only [Act.put, List.setIfInBounds_toArray, List.set_cons_zero, List.set_cons_succ, i64_w, i32_w]
                  rfl
                refine pure_ (i := 3) (N := some 16) (v := ?_) (a' := ?_) #[true, true, true, true, false, false, false, false, false] rfl rfl (any_of HT_.out (by kernel_rfl)) (fun _ _ _ h => h) (Or.inl ⟨by rfl, ?_⟩) ?_ ?_
                rotate_left
                · intro w'
                  go_simp
                  with_reducible rfl
                rotate_left
                · simp only [Act.put, List.setIfInBounds_toArray, List.set_cons_zero, List.set_cons_succ, i64_w, i32_w]
                  rfl
                refine pure_ (i := 5) (N := some 18) (v := ?_) (a' := ?_) #[true, true, true, true, false, true, false, false, false] rfl rfl (any_of HT_.out (by kernel_rfl)) (fun _ _ _ h => h) (Or.inl ⟨by rfl, ?_⟩) ?_ ?_
                rotate_left
                · intro w'
                  go_simp
                  with_reducible rfl
                rotate_left
                · simp only [Act.put, List.setIfInBounds_toArray, List.set_cons_zero, List.set_cons_succ, i64_w, i32_w]
                  rfl
                refine take_ (i := 4) (N := some 17) (v := ?_) (a' := ?_) #[true, true, true, true, true, true, false, false, false] rfl rfl (take_ofW HT_.out HW_.out (by kernel_rfl)) (fun _ _ _ h => h) (Or.inl ⟨by rfl, ?_⟩) hHeld ?_ ?_
                rotate_left
                · rintro w' ⟨s0, s1, s2, s3, s4, s5, s6, s7, s8⟩
                  go_simp
                  with_reducible rfl
                rotate_left
                · simp only [Act.put, List.setIfInBounds_toArray, List.set_cons_zero, List.set_cons_succ, i64_w, i32_w]
                  rfl
                refine take_ (i := 6) (N := some 19) (v := ?_) (a' := ?_) #[true, true, true, true, true, true, true, false, false] rfl rfl (take_ofW HT_.out HW_.out (by kernel_rfl)) (fun _ _ _ h => h) (Or.inl ⟨by rfl, ?_⟩) hHeld ?_ ?_
                rotate_left
                · rintro w' ⟨s0, s1, s2, s3, s4, s5, s6, s7, s8⟩
                  go_simp
                  with_reducible rfl
                rotate_left
                · simp only [Act.put, List.setIfInBounds_toArray, List.set_cons_zero, List.set_cons_succ, i64_w, i32_w]
                  rfl
                refine one_ (i := 7) (N := some 20) #[true, true, true, true, true, true, true, true, false] rfl rfl (one_of HT_.out (by kernel_rfl)) (by decide) (fun K hK => ?_)
                refine goes_ Try.func45 (by kernel_rfl) rfl #[.slice (some ad182) y184.length c0, .int .i64 ((rd_T97 l0 x8_1).f0), .agg #[.int .i64 ((rd_T97 l0 x8_1).f1.f0), .int .i64 ((rd_T97 l0 x8_1).f1.f1)]] (by rfl) rfl rfl (by (try simp only [List.map_toArray, List.map_cons, List.map_nil]); first | done | rfl | (simp only [List.length_drop, List.length_take]; rfl)) ?_
                with_reducible refine (impl_PanOf.calls k1 _ _ y184 ((rd_T97 l0 x8_1).f0) ((rd_T97 l0 x8_1).f1.f0) ((rd_T97 l0 x8_1).f1.f1) t188 _ ?side1 ?side2 A7.out).mono ?_
                (case side1 => repeat (first | exact (Kd.C_below HR187.out HB.out) | (with_reducible refine Kd.C_alloc ?_ _) | (with_reducible refine Kd.C_drewN ?_ _) | (with_reducible refine Kd.C_drew ?_)))
                (case side2 => exact HC187.out)
                rintro e w50 ⟨v189, rfl, ho0, hb⟩
                refine ⟨_, rfl, ?_⟩
                have n0_ := Aside0.mk (Kd.R_lower (Kd.R_newB ho0 (g := gb183) (o := .cells #[.int .i64 ((rd_T97 l0 x8_1).f0), .int .i64 ((rd_T97 l0 x8_1).f1.f0), .int .i64 ((rd_T97 l0 x8_1).f1.f1), .int .i64 ((rd_T97 l0 x8_1).f2), .int .i64 ((rd_T97 l0 x8_1).f3), .int .i64 ((rd_T97 l0 x8_1).f4.f0), .int .i64 ((rd_T97 l0 x8_1).f4.f1), .int .i64 ((rd_T97 l0 x8_1).f4.f2), .int .i64 ((rd_T97 l0 x8_1).f4.f3)] 97 (0, 0)) (by (with_reducible repeat (first | refine blk_drewN ?_ _ | refine blk_drew ?_ | refine blk_alloc ?_ _)); exact BK183.out)) (below_size (by repeat (first | (with_reducible first | exact HB.out | apply below_alloc | apply pw_below_drewN | apply below_drew1 | refine below_set ?_ GE183.out) | exact HB.out))))
                have n1_ := Aside0.mk (blk_below (g := gb183) (o := .cells #[.int .i64 ((rd_T97 l0 x8_1).f0), .int .i64 ((rd_T97 l0 x8_1).f1.f0), .int .i64 ((rd_T97 l0 x8_1).f1.f1), .int .i64 ((rd_T97 l0 x8_1).f2), .int .i64 ((rd_T97 l0 x8_1).f3), .int .i64 ((rd_T97 l0 x8_1).f4.f0), .int .i64 ((rd_T97 l0 x8_1).f4.f1), .int .i64 ((rd_T97 l0 x8_1).f4.f2), .int .i64 ((rd_T97 l0 x8_1).f4.f3)] 97 (0, 0)) (by (with_reducible repeat (first | refine blk_drewN ?_ _ | refine blk_drew ?_ | refine blk_alloc ?_ _)); exact BK183.out) hb)
                have n2_ := Aside0.mk (below_step (by repeat (first | (with_reducible first | exact HB.out | apply below_alloc | apply pw_below_drewN | apply below_drew1 | refine below_set ?_ GE183.out) | exact HB.out)) hb)
                clear BK183
                clear HB
                have HO190 := n0_
                have BK183 := n1_
                have HB := n2_
                clear n0_ n1_ n2_
                (try clear hb)
                (try clear hb2)
                (try clear hk)
                (try clear hi)
                (try clear ho0)
                refine hK.out _ _ ⟨(blk_cell BK183.out 0).trans rfl, (blk_cell BK183.out 1).trans rfl, (blk_cell BK183.out 2).trans rfl, (blk_cell BK183.out 3).trans rfl, (blk_cell BK183.out 4).trans rfl, (blk_cell BK183.out 5).trans rfl, (blk_cell BK183.out 6).trans rfl, (blk_cell BK183.out 7).trans rfl, (blk_cell BK183.out 8).trans rfl⟩ (fun hHeld => ?_)
                clear hK K
                refine norm_ (a' := ?_) ?_ ?_
                rotate_left
                · show Act.put _ (some 20) _ = _
                  simp only [Act.put, List.setIfInBounds_toArray, List.set_cons_zero, List.set_cons_succ, i64_w, i32_w]
                  rfl
                refine pure_ (i := 8) (N := some 5) (v := ?_) (a' := ?_) #[true, true, true, true, true, true, true, true, true] rfl rfl (any_of HT_.out (by kernel_rfl)) (fun _ _ _ h => h) (Or.inl ⟨by rfl, ?_⟩) ?_ ?_
                rotate_left
                · intro w'
                  go_simp
                  with_reducible rfl
                rotate_left
                · simp only [Act.put, List.setIfInBounds_toArray, List.set_cons_zero, List.set_cons_succ, i64_w, i32_w]
                  rfl
                refine done_ (done_of HT_.out (by kernel_rfl)) ?_
                have hcz51_0 : w50.cell? ⟨gb183, 0, none⟩ = some (.int .i64 ((rd_T97 l0 x8_1).f0)) := (blk_cell BK183.out 0).trans rfl
                have hcz51_1 : w50.cell? ⟨gb183, 1, none⟩ = some (.int .i64 ((rd_T97 l0 x8_1).f1.f0)) := (blk_cell BK183.out 1).trans rfl
                have hcz51_2 : w50.cell? ⟨gb183, 2, none⟩ = some (.int .i64 ((rd_T97 l0 x8_1).f1.f1)) := (blk_cell BK183.out 2).trans rfl
                have hcz51_3 : w50.cell? ⟨gb183, 3, none⟩ = some (.int .i64 ((rd_T97 l0 x8_1).f2)) := (blk_cell BK183.out 3).trans rfl
                have hcz51_4 : w50.cell? ⟨gb183, 4, none⟩ = some (.int .i64 ((rd_T97 l0 x8_1).f3)) := (blk_cell BK183.out 4).trans rfl
                have hcz51_5 : w50.cell? ⟨gb183, 5, none⟩ = some (.int .i64 ((rd_T97 l0 x8_1).f4.f0)) := (blk_cell BK183.out 5).trans rfl
                have hcz51_6 : w50.cell? ⟨gb183, 6, none⟩ = some (.int .i64 ((rd_T97 l0 x8_1).f4.f1)) := (blk_cell BK183.out 6).trans rfl
                have hcz51_7 : w50.cell? ⟨gb183, 7, none⟩ = some (.int .i64 ((rd_T97 l0 x8_1).f4.f2)) := (blk_cell BK183.out 7).trans rfl
                have hcz51_8 : w50.cell? ⟨gb183, 8, none⟩ = some (.int .i64 ((rd_T97 l0 x8_1).f4.f3)) := (blk_cell BK183.out 8).trans rfl
                have hfz51_0 := blk_frozen BK183.out 0
                have hfz51_1 := blk_frozen BK183.out 1
                have hfz51_2 := blk_frozen BK183.out 2
                have hfz51_3 := blk_frozen BK183.out 3
                have hfz51_4 := blk_frozen BK183.out 4
                have hfz51_5 := blk_frozen BK183.out 5
                have hfz51_6 := blk_frozen BK183.out 6
                have hfz51_7 := blk_frozen BK183.out 7
                have hfz51_8 := blk_frozen BK183.out 8
                try go_wp2_with (first | ((with_reducible refine gate_callee (f := 68) rfl ?_); refine goesL_ (some 22) rfl rfl Try.func68 (by kernel_rfl) rfl #[.agg #[.int .i64 ((rd_T97 l0 x8_1).f0), .int .i64 ((rd_T97 l0 x8_1).f1.f0), .int .i64 ((rd_T97 l0 x8_1).f1.f1), .int .i64 ((rd_T97 l0 x8_1).f2), .int .i64 ((rd_T97 l0 x8_1).f3), .int .i64 ((rd_T97 l0 x8_1).f4.f0), .int .i64 ((rd_T97 l0 x8_1).f4.f1), .int .i64 ((rd_T97 l0 x8_1).f4.f2), .int .i64 ((rd_T97 l0 x8_1).f4.f3)]] rfl (by (try simp only [List.map_toArray, List.map_cons, List.map_nil]); first | done | rfl | (simp only [List.length_drop, List.length_take]; rfl)) ?_; (with_reducible refine (impl_PanOk.calls k1 ((rd_T97 l0 x8_1).f0) ((rd_T97 l0 x8_1).f1.f0) ((rd_T97 l0 x8_1).f1.f1) ((rd_T97 l0 x8_1).f2) ((rd_T97 l0 x8_1).f3) ((rd_T97 l0 x8_1).f4.f0) ((rd_T97 l0 x8_1).f4.f1) ((rd_T97 l0 x8_1).f4.f2) ((rd_T97 l0 x8_1).f4.f3) false _ A8.out).mono ?_); rintro e w52 ⟨rfl, hb⟩; refine ⟨_, rfl, ?_⟩; have n0_ := Aside0.mk (Kd.R_below (by (with_reducible repeat (first | apply Kd.R_alloc | apply Kd.R_drewN | apply Kd.R_drew)); exact HO190.out) hb); have n1_ := Aside0.mk (blk_below (g := gb183) (o := .cells #[.int .i64 ((rd_T97 l0 x8_1).f0), .int .i64 ((rd_T97 l0 x8_1).f1.f0), .int .i64 ((rd_T97 l0 x8_1).f1.f1), .int .i64 ((rd_T97 l0 x8_1).f2), .int .i64 ((rd_T97 l0 x8_1).f3), .int .i64 ((rd_T97 l0 x8_1).f4.f0), .int .i64 ((rd_T97 l0 x8_1).f4.f1), .int .i64 ((rd_T97 l0 x8_1).f4.f2), .int .i64 ((rd_T97 l0 x8_1).f4.f3)] 97 (0, 0)) (by (with_reducible repeat (first | refine blk_drewN ?_ _ | refine blk_drew ?_ | refine blk_alloc ?_ _)); exact BK183.out) hb); have n2_ := Aside0.mk (below_step (by repeat (first | (with_reducible first | exact HB.out | apply below_alloc | apply pw_below_drewN | apply below_drew1 | refine below_set ?_ GE183.out) | exact HB.out)) hb); clear HO190; clear BK183; clear HB; have HO190 := n0_; have BK183 := n1_; have HB := n2_; clear n0_ n1_ n2_; (try clear hb); (try clear hb2); (try clear hk); (try clear hi)))
                go_ret
                exact ⟨by first | rfl | (simp [errW_none, errW_some] <;> rfl) | (simp [*, errW_none, errW_some] <;> rfl), by repeat (first | (with_reducible first | exact HB.out | apply below_alloc | apply pw_below_drewN | apply below_drew1 | refine below_set ?_ GE183.out) | exact HB.out)⟩
            · rw [if_neg c6] at H
              exact absurd H (by simp)
          · rw [if_neg c4] at H
            exact absurd H (by simp)
        · rw [if_neg c3] at H
          exact absurd H (by simp)
      · rw [if_neg c2] at H
        have c2b0 : decide (x8_1 < (l0.length : Int)) = false := decide_eq_false c2
        clear c2
        obtain rfl := Option.some.inj H
        go_wp2
        go_ret
        exact ⟨by first | rfl | (simp [errW_none, errW_some] <;> rfl) | (simp [*, errW_none, errW_some] <;> rfl), by repeat (first | (with_reducible first | exact HB.out | apply below_alloc | apply pw_below_drewN | apply below_drew1) | exact HB.out)⟩

end Go.Proofs.Ytofhaglklhmilaa.PFnExactPanSound
