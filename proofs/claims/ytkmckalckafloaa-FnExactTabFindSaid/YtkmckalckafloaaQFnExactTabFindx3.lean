/- Functions of the program as Lean functions, with their contracts, written by a program of mine over the kit's printer and in part by hand. No condition of its own. -/
import Derived.Test.YtkmckalckafloaaQFnExactTabFindx0
import Derived.Test.YtkmckalckafloaaQFnExactTabFindx1
namespace Go.Proofs.Ytkmckalckafloaa.PFnExactTabFind
open Go.RowKit Go.Proofs.YtkmckalckafloaaW.PrintWords Go.Proofs.YtkmckalckafloaaW.PrintLast Go.Proofs.YtkmckalckafloaaW.PrintMore
attribute [local go_sem] max2_int min2_int max_two min_two max_three min_three max_four min_four   -- for this text's walks alone
set_option linter.unusedVariables false
set_option linter.unusedSimpArgs false

attribute [local go_sem high] eqA34
/-! ### spec_TabFind: function 20 -/
def spec_TabFind.l0 : Nat → List (S87) → Int → Int → Int → Int → Option (Int × Int × Int × Int × Bool)
  | 0, _, _, _, _, _ => none
  | k + 1, x0, x1, x8, x140000, x140001 => if x8 < (x0.length : Int) then (if 0 ≤ x8 then (if ((rd_T87 x0 x8).f0) = x1 then (if (((rd_T87 x0 x8).f1.f0) == x140000 && (((rd_T87 x0 x8).f1.f1) == x140001)) = true then (some ((rd_T87 x0 x8).f2.f0, (rd_T87 x0 x8).f2.f1, (rd_T87 x0 x8).f2.f2, (rd_T87 x0 x8).f2.f3, true)) else (spec_TabFind.l0 k x0 x1 (wrap64 (x8 + 1)) x140000 x140001)) else (spec_TabFind.l0 k x0 x1 (wrap64 (x8 + 1)) x140000 x140001)) else (none)) else (some (0, 0, 0, 0, false))
def spec_TabFind.f (k : Nat) (l0 : List (S87)) (a1 : Int) (a2_0 : Int) (a2_1 : Int) : Option (Int × Int × Int × Int × Bool) := spec_TabFind.l0 k l0 a1 0 a2_0 a2_1
theorem spec_TabFind.mono_l : ∀ k, (∀ y0 y1 y2 y3 y4, LeO (spec_TabFind.l0 k y0 y1 y2 y3 y4) (spec_TabFind.l0 (k + 1) y0 y1 y2 y3 y4))
  | 0 => fun _ _ _ _ _ r h => by simp [spec_TabFind.l0] at h
  | k + 1 => by
    have ih0 := spec_TabFind.mono_l k
    · intro y0 y1 y2 y3 y4
      unfold spec_TabFind.l0
      repeat' first
      | (with_reducible exact ih0 _ _ _ _ _)
      | (with_reducible exact LeO.refl _)
      | (with_reducible exact LeO.none _)
      | (with_reducible refine LeO.ite ?_ ?_)
      | (with_reducible refine LeO.bind ?_ (fun _ => ?_))
      | exact ih0 _ _ _ _ _
      | exact LeO.none _
      | refine LeO.ite ?_ ?_
      | refine LeO.bind ?_ (fun _ => ?_)
theorem spec_TabFind.mono : ∀ a0 a1 a2 a3 k, LeO (spec_TabFind.f k a0 a1 a2 a3) (spec_TabFind.f (k + 1) a0 a1 a2 a3) := by
  intro a0 a1 a2 a3 k
  have ih0 := spec_TabFind.mono_l k
  unfold spec_TabFind.f
  repeat' first
      | (with_reducible exact ih0 _ _ _ _ _)
      | (with_reducible exact LeO.refl _)
      | (with_reducible exact LeO.none _)
      | (with_reducible refine LeO.ite ?_ ?_)
      | (with_reducible refine LeO.bind ?_ (fun _ => ?_))
      | exact ih0 _ _ _ _ _
      | exact LeO.none _
      | refine LeO.ite ?_ ?_
      | refine LeO.bind ?_ (fun _ => ?_)
set_option maxHeartbeats 8000000 in
set_option maxRecDepth 100000 in
theorem spec_TabFind.calls (k : Nat) (A0 : Option Addr) (c0 : Nat) (l0 : List (S87)) (a1 : Int) (a2_0 : Int) (a2_1 : Int) (r1 : Int) (r2 : Int) (r3 : Int) (r4 : Int) (r5 : Bool) (w : World) (hr0 : Kd.C k87 w A0 l0.length l0) (hc0 : l0.length ≤ c0) (h : spec_TabFind.f k l0 a1 a2_0 a2_1 = some (r1, r2, r3, r4, r5)) :
    Calls Try.prog 20 #[.slice A0 l0.length c0, .int .i64 a1, .agg #[.int .i64 a2_0, .int .i64 a2_1]] w fun e w' => e = .returned (.tuple #[.agg #[.int .i64 r1, .int .i64 r2, .int .i64 r3, .int .i64 r4], .bool r5]) ∧ Below w.heap.size w w' := by
  have hu34 := Try.underlying34
  have hu31 := Try.underlying31
  have HR0 := Aside0.mk hr0
  have HC0 := Aside0.mk hc0
  clear hr0 hc0
  have HB := Aside0.mk (Below.refl w.heap.size w)
  have H : (spec_TabFind.l0 k l0 a1 0 a2_0 a2_1) = some (r1, r2, r3, r4, r5) := h
  clear h
  have H' := Aside0.mk H
  clear H
  go_enter Try.func20, Try.ntmps20
  go_wp2_with (first | ((with_reducible refine gate_dst (N := 5) rfl ?_); refine box_event ?hg (N := 5) ?hd (cs := #[.int .i64 a2_0, .int .i64 a2_1]) (t := 34) ?hr ?_; (case hd => rfl); (case hg => rfl); (case hr => first | (go_simp; done) | (go_simp; rfl)); intro gb139 hg w4 hbox hb; have n0_ := Aside0.mk (below_step (by repeat (first | (with_reducible first | exact HB.out | apply below_alloc | apply pw_below_drewN | apply below_drew1) | exact HB.out)) hb); have n1_ := Aside0.mk (hbox); have n2_ := Aside0.mk ((by rw [hg]; exact (below_size (by repeat (first | (with_reducible first | exact HB.out | apply below_alloc | apply pw_below_drewN | apply below_drew1) | exact HB.out))) : w.heap.size ≤ gb139)); have n3_ := Aside0.mk ((by rw [hg]; exact (below_size (by repeat (first | (with_reducible first | exact HB.out | apply below_alloc | apply pw_below_drewN | apply below_drew1) | exact HB.out))) : w.heap.size ≤ gb139)); clear HB; have HB := n0_; have BK139 := n1_; have GW139 := n2_; have GE139 := n3_; clear n0_ n1_ n2_ n3_; clear hb hbox hg) | ((with_reducible refine gate_dst (N := 6) rfl ?_); refine box_event ?hg (N := 6) ?hd (cs := #[.int .i64 0, .int .i64 0, .int .i64 0, .int .i64 0]) (t := 31) ?hr ?_; (case hd => rfl); (case hg => rfl); (case hr => first | (go_simp; done) | (go_simp; rfl)); intro gb140 hg w5 hbox hb; have n0_ := Aside0.mk (blk_below (g := gb139) (o := .cells #[.int .i64 a2_0, .int .i64 a2_1] 34 (0, 0)) (by (with_reducible repeat (first | refine blk_drewN ?_ _ | refine blk_drew ?_ | refine blk_alloc ?_ _)); exact BK139.out) hb); have n1_ := Aside0.mk (below_step (by repeat (first | (with_reducible first | exact HB.out | apply below_alloc | apply pw_below_drewN | apply below_drew1 | refine below_set ?_ GE139.out) | exact HB.out)) hb); have n2_ := Aside0.mk (hbox); have n3_ := Aside0.mk ((by rw [hg]; exact (below_size (by repeat (first | (with_reducible first | exact HB.out | apply below_alloc | apply pw_below_drewN | apply below_drew1 | refine below_set ?_ GE139.out) | exact HB.out))) : w.heap.size ≤ gb140)); have n4_ := Aside0.mk ((by rw [hg]; exact (below_size (by repeat (first | (with_reducible first | exact HB.out | apply below_alloc | apply pw_below_drewN | apply below_drew1 | refine below_set ?_ GE139.out) | exact HB.out))) : w.heap.size ≤ gb140)); have n5_ := Aside0.mk ((by rw [hg]; exact Nat.ne_of_lt (blk_lt (g := gb139) (o := .cells #[.int .i64 a2_0, .int .i64 a2_1] 34 (0, 0)) (by (with_reducible repeat (first | refine blk_drewN ?_ _ | refine blk_drew ?_ | refine blk_alloc ?_ _)); exact BK139.out)) : gb139 ≠ gb140)); have n6_ := Aside0.mk ((by rw [hg]; exact Nat.ne_of_gt (blk_lt (g := gb139) (o := .cells #[.int .i64 a2_0, .int .i64 a2_1] 34 (0, 0)) (by (with_reducible repeat (first | refine blk_drewN ?_ _ | refine blk_drew ?_ | refine blk_alloc ?_ _)); exact BK139.out)) : gb140 ≠ gb139)); clear BK139; clear HB; have BK139 := n0_; have HB := n1_; have BK140 := n2_; have GW140 := n3_; have GE140 := n4_; have NB139_140 := n5_; have NB140_139 := n6_; clear n0_ n1_ n2_ n3_ n4_ n5_ n6_; clear hb hbox hg))
  repeat (go_quiet (first | ((with_reducible refine gate_dst (N := 5) rfl ?_); refine box_event ?hg (N := 5) ?hd (cs := #[.int .i64 a2_0, .int .i64 a2_1]) (t := 34) ?hr ?_; (case hd => rfl); (case hg => rfl); (case hr => first | (go_simp; done) | (go_simp; rfl)); intro gb139 hg w4 hbox hb; have n0_ := Aside0.mk (below_step (by repeat (first | (with_reducible first | exact HB.out | apply below_alloc | apply pw_below_drewN | apply below_drew1) | exact HB.out)) hb); have n1_ := Aside0.mk (hbox); have n2_ := Aside0.mk ((by rw [hg]; exact (below_size (by repeat (first | (with_reducible first | exact HB.out | apply below_alloc | apply pw_below_drewN | apply below_drew1) | exact HB.out))) : w.heap.size ≤ gb139)); have n3_ := Aside0.mk ((by rw [hg]; exact (below_size (by repeat (first | (with_reducible first | exact HB.out | apply below_alloc | apply pw_below_drewN | apply below_drew1) | exact HB.out))) : w.heap.size ≤ gb139)); clear HB; have HB := n0_; have BK139 := n1_; have GW139 := n2_; have GE139 := n3_; clear n0_ n1_ n2_ n3_; clear hb hbox hg) | ((with_reducible refine gate_dst (N := 6) rfl ?_); refine box_event ?hg (N := 6) ?hd (cs := #[.int .i64 0, .int .i64 0, .int .i64 0, .int .i64 0]) (t := 31) ?hr ?_; (case hd => rfl); (case hg => rfl); (case hr => first | (go_simp; done) | (go_simp; rfl)); intro gb140 hg w5 hbox hb; have n0_ := Aside0.mk (blk_below (g := gb139) (o := .cells #[.int .i64 a2_0, .int .i64 a2_1] 34 (0, 0)) (by (with_reducible repeat (first | refine blk_drewN ?_ _ | refine blk_drew ?_ | refine blk_alloc ?_ _)); exact BK139.out) hb); have n1_ := Aside0.mk (below_step (by repeat (first | (with_reducible first | exact HB.out | apply below_alloc | apply pw_below_drewN | apply below_drew1 | refine below_set ?_ GE139.out) | exact HB.out)) hb); have n2_ := Aside0.mk (hbox); have n3_ := Aside0.mk ((by rw [hg]; exact (below_size (by repeat (first | (with_reducible first | exact HB.out | apply below_alloc | apply pw_below_drewN | apply below_drew1 | refine below_set ?_ GE139.out) | exact HB.out))) : w.heap.size ≤ gb140)); have n4_ := Aside0.mk ((by rw [hg]; exact (below_size (by repeat (first | (with_reducible first | exact HB.out | apply below_alloc | apply pw_below_drewN | apply below_drew1 | refine below_set ?_ GE139.out) | exact HB.out))) : w.heap.size ≤ gb140)); have n5_ := Aside0.mk ((by rw [hg]; exact Nat.ne_of_lt (blk_lt (g := gb139) (o := .cells #[.int .i64 a2_0, .int .i64 a2_1] 34 (0, 0)) (by (with_reducible repeat (first | refine blk_drewN ?_ _ | refine blk_drew ?_ | refine blk_alloc ?_ _)); exact BK139.out)) : gb139 ≠ gb140)); have n6_ := Aside0.mk ((by rw [hg]; exact Nat.ne_of_gt (blk_lt (g := gb139) (o := .cells #[.int .i64 a2_0, .int .i64 a2_1] 34 (0, 0)) (by (with_reducible repeat (first | refine blk_drewN ?_ _ | refine blk_drew ?_ | refine blk_alloc ?_ _)); exact BK139.out)) : gb140 ≠ gb139)); clear BK139; clear HB; have BK139 := n0_; have HB := n1_; have BK140 := n2_; have GW140 := n3_; have GE140 := n4_; have NB139_140 := n5_; have NB140_139 := n6_; clear n0_ n1_ n2_ n3_ n4_ n5_ n6_; clear hb hbox hg)); try go_wp2_with (first | ((with_reducible refine gate_dst (N := 5) rfl ?_); refine box_event ?hg (N := 5) ?hd (cs := #[.int .i64 a2_0, .int .i64 a2_1]) (t := 34) ?hr ?_; (case hd => rfl); (case hg => rfl); (case hr => first | (go_simp; done) | (go_simp; rfl)); intro gb139 hg w4 hbox hb; have n0_ := Aside0.mk (below_step (by repeat (first | (with_reducible first | exact HB.out | apply below_alloc | apply pw_below_drewN | apply below_drew1) | exact HB.out)) hb); have n1_ := Aside0.mk (hbox); have n2_ := Aside0.mk ((by rw [hg]; exact (below_size (by repeat (first | (with_reducible first | exact HB.out | apply below_alloc | apply pw_below_drewN | apply below_drew1) | exact HB.out))) : w.heap.size ≤ gb139)); have n3_ := Aside0.mk ((by rw [hg]; exact (below_size (by repeat (first | (with_reducible first | exact HB.out | apply below_alloc | apply pw_below_drewN | apply below_drew1) | exact HB.out))) : w.heap.size ≤ gb139)); clear HB; have HB := n0_; have BK139 := n1_; have GW139 := n2_; have GE139 := n3_; clear n0_ n1_ n2_ n3_; clear hb hbox hg) | ((with_reducible refine gate_dst (N := 6) rfl ?_); refine box_event ?hg (N := 6) ?hd (cs := #[.int .i64 0, .int .i64 0, .int .i64 0, .int .i64 0]) (t := 31) ?hr ?_; (case hd => rfl); (case hg => rfl); (case hr => first | (go_simp; done) | (go_simp; rfl)); intro gb140 hg w5 hbox hb; have n0_ := Aside0.mk (blk_below (g := gb139) (o := .cells #[.int .i64 a2_0, .int .i64 a2_1] 34 (0, 0)) (by (with_reducible repeat (first | refine blk_drewN ?_ _ | refine blk_drew ?_ | refine blk_alloc ?_ _)); exact BK139.out) hb); have n1_ := Aside0.mk (below_step (by repeat (first | (with_reducible first | exact HB.out | apply below_alloc | apply pw_below_drewN | apply below_drew1 | refine below_set ?_ GE139.out) | exact HB.out)) hb); have n2_ := Aside0.mk (hbox); have n3_ := Aside0.mk ((by rw [hg]; exact (below_size (by repeat (first | (with_reducible first | exact HB.out | apply below_alloc | apply pw_below_drewN | apply below_drew1 | refine below_set ?_ GE139.out) | exact HB.out))) : w.heap.size ≤ gb140)); have n4_ := Aside0.mk ((by rw [hg]; exact (below_size (by repeat (first | (with_reducible first | exact HB.out | apply below_alloc | apply pw_below_drewN | apply below_drew1 | refine below_set ?_ GE139.out) | exact HB.out))) : w.heap.size ≤ gb140)); have n5_ := Aside0.mk ((by rw [hg]; exact Nat.ne_of_lt (blk_lt (g := gb139) (o := .cells #[.int .i64 a2_0, .int .i64 a2_1] 34 (0, 0)) (by (with_reducible repeat (first | refine blk_drewN ?_ _ | refine blk_drew ?_ | refine blk_alloc ?_ _)); exact BK139.out)) : gb139 ≠ gb140)); have n6_ := Aside0.mk ((by rw [hg]; exact Nat.ne_of_gt (blk_lt (g := gb139) (o := .cells #[.int .i64 a2_0, .int .i64 a2_1] 34 (0, 0)) (by (with_reducible repeat (first | refine blk_drewN ?_ _ | refine blk_drew ?_ | refine blk_alloc ?_ _)); exact BK139.out)) : gb140 ≠ gb139)); clear BK139; clear HB; have BK139 := n0_; have HB := n1_; have BK140 := n2_; have GW140 := n3_; have GE140 := n4_; have NB139_140 := n5_; have NB140_139 := n6_; clear n0_ n1_ n2_ n3_ n4_ n5_ n6_; clear hb hbox hg)))
  go_loopg [8] k (fun kq v8 w' => ∃ (x8_1 : Int) (x141000_1 : Int) (x141001_1 : Int) (x141002_1 : Int) (x141003_1 : Int), v8 = .int .i64 x8_1 ∧ Aside0 (spec_TabFind.l0 kq l0 a1 x8_1 a2_0 a2_1 = some (r1, r2, r3, r4, r5)) ∧ Aside0 (kq ≤ k) ∧ Aside0 (w'.heap[gb139]? = some (.cells #[.int .i64 a2_0, .int .i64 a2_1] 34 (0, 0))) ∧ Aside0 (w'.heap[gb140]? = some (.cells #[.int .i64 x141000_1, .int .i64 x141001_1, .int .i64 x141002_1, .int .i64 x141003_1] 31 (0, 0))) ∧ Aside0 (Below w.heap.size w w'))
  case atStart => exact ⟨(0), (0), (0), (0), (0), (by first | rfl | (simp; done) | (simp [*]; done)), H', ⟨Nat.le_refl _⟩, ⟨by (with_reducible repeat (first | refine blk_drewN ?_ _ | refine blk_drew ?_ | refine blk_alloc ?_ _)); exact BK139.out⟩, ⟨by (with_reducible repeat (first | refine blk_drewN ?_ _ | refine blk_drew ?_ | refine blk_alloc ?_ _)); exact BK140.out⟩, ⟨by repeat (first | (with_reducible first | exact HB.out | apply below_alloc | apply pw_below_drewN | apply below_drew1 | refine below_set ?_ GE139.out | refine below_set ?_ GE140.out) | exact HB.out)⟩⟩
  case round =>
    clear H'
    try clear c2
    try clear p2
    obtain ⟨x8_1, x141000_1, x141001_1, x141002_1, x141003_1, rfl, HA, HK1, BK139, BK140, HB⟩ := hrel
    cases gk with
    | zero => exact absurd HA.out (by simp [spec_TabFind.l0])
    | succ k1 =>
      have H := HA.out
      clear HA
      simp only [spec_TabFind.l0] at H
      by_cases c6 : x8_1 < (l0.length : Int)
      · rw [if_pos c6] at H
        have c6b0 : decide (x8_1 < (l0.length : Int)) = true := decide_eq_true c6
        clear c6
        by_cases c7 : 0 ≤ x8_1
        · rw [if_pos c7] at H
          have c7b0 : decide (0 ≤ x8_1) = true := decide_eq_true c7
          clear c7
          by_cases c8 : ((rd_T87 l0 x8_1).f0) = a1
          · rw [if_pos c8] at H
            have c8b0 : (((rd_T87 l0 x8_1).f0) == a1) = true := beq_iff_eq.mpr c8
            have c8b1 : (((rd_T87 l0 x8_1).f0) != a1) = false := bne_eq_false_iff_eq.mpr c8
            clear c8
            by_cases c9 : (((rd_T87 l0 x8_1).f1.f0) == a2_0 && (((rd_T87 l0 x8_1).f1.f1) == a2_1)) = true
            · rw [if_pos c9] at H
              have c9b0 : (((rd_T87 l0 x8_1).f1.f0) == a2_0 && (((rd_T87 l0 x8_1).f1.f1) == a2_1)) = true := c9
              (try (have c9b1 : decide (((rd_T87 l0 x8_1).f1.f0) = a2_0 && (((rd_T87 l0 x8_1).f1.f1) == a2_1)) = true := by simpa using c9))
              (try (have c9b2 : (((rd_T87 l0 x8_1).f1.f0) == a2_0 && (((rd_T87 l0 x8_1).f1.f1) == a2_1)) = true := by simpa using c9))
              clear c9
              simp only [Option.some.injEq, Prod.mk.injEq] at H
              obtain ⟨rfl, rfl, rfl, rfl, rfl⟩ := H
              have p141 : 0 ≤ (x8_1 : Int) := of_decide_eq_true (by first | (with_reducible assumption) | assumption)
              have q141 : x8_1 < (l0.length : Int) := of_decide_eq_true (by first | (with_reducible assumption) | assumption)
              obtain ⟨ad141, e141, hx141_0, hx141_1, hx141_2, hx141_3, hx141_4, hx141_5, hx141_6⟩ := at_T87 HR0.out x8_1 p141 q141
              cases e141
              replace hx141_0 := (HB.out.cell (World.block_lt_of_cell? w _ hx141_0)).trans hx141_0
              replace hx141_1 := (HB.out.cell (World.block_lt_of_cell? w _ hx141_1)).trans hx141_1
              replace hx141_2 := (HB.out.cell (World.block_lt_of_cell? w _ hx141_2)).trans hx141_2
              replace hx141_3 := (HB.out.cell (World.block_lt_of_cell? w _ hx141_3)).trans hx141_3
              replace hx141_4 := (HB.out.cell (World.block_lt_of_cell? w _ hx141_4)).trans hx141_4
              replace hx141_5 := (HB.out.cell (World.block_lt_of_cell? w _ hx141_5)).trans hx141_5
              replace hx141_6 := (HB.out.cell (World.block_lt_of_cell? w _ hx141_6)).trans hx141_6
              replace p141 := eq_true p141
              replace q141 := eq_true q141
              have p142 : 0 ≤ (x8_1 : Int) := of_decide_eq_true (by first | (with_reducible assumption) | assumption)
              have q142 : x8_1 < (l0.length : Int) := of_decide_eq_true (by first | (with_reducible assumption) | assumption)
              obtain ⟨ad142, e142, hx142_0, hx142_1, hx142_2, hx142_3, hx142_4, hx142_5, hx142_6⟩ := at_T87 HR0.out x8_1 p142 q142
              obtain rfl : ad141 = ad142 := (by injection e142)
              replace hx142_0 := (HB.out.cell (World.block_lt_of_cell? w _ hx142_0)).trans hx142_0
              replace hx142_1 := (HB.out.cell (World.block_lt_of_cell? w _ hx142_1)).trans hx142_1
              replace hx142_2 := (HB.out.cell (World.block_lt_of_cell? w _ hx142_2)).trans hx142_2
              replace hx142_3 := (HB.out.cell (World.block_lt_of_cell? w _ hx142_3)).trans hx142_3
              replace hx142_4 := (HB.out.cell (World.block_lt_of_cell? w _ hx142_4)).trans hx142_4
              replace hx142_5 := (HB.out.cell (World.block_lt_of_cell? w _ hx142_5)).trans hx142_5
              replace hx142_6 := (HB.out.cell (World.block_lt_of_cell? w _ hx142_6)).trans hx142_6
              replace p142 := eq_true p142
              replace q142 := eq_true q142
              have hnb10 := NB139_140.out
              have hnc10 := NB140_139.out
              have hcz11_0 : wr.cell? ⟨gb139, 0, none⟩ = some (.int .i64 a2_0) := (blk_cell BK139.out 0).trans rfl
              have hcz11_1 : wr.cell? ⟨gb139, 1, none⟩ = some (.int .i64 a2_1) := (blk_cell BK139.out 1).trans rfl
              have hfz11_0 := blk_frozen BK139.out 0
              have hfz11_1 := blk_frozen BK139.out 1
              have p143 : 0 ≤ (x8_1 : Int) := of_decide_eq_true (by first | (with_reducible assumption) | assumption)
              have q143 : x8_1 < (l0.length : Int) := of_decide_eq_true (by first | (with_reducible assumption) | assumption)
              obtain ⟨ad143, e143, hx143_0, hx143_1, hx143_2, hx143_3, hx143_4, hx143_5, hx143_6⟩ := at_T87 HR0.out x8_1 p143 q143
              obtain rfl : ad141 = ad143 := (by injection e143)
              replace hx143_0 := (HB.out.cell (World.block_lt_of_cell? w _ hx143_0)).trans hx143_0
              replace hx143_1 := (HB.out.cell (World.block_lt_of_cell? w _ hx143_1)).trans hx143_1
              replace hx143_2 := (HB.out.cell (World.block_lt_of_cell? w _ hx143_2)).trans hx143_2
              replace hx143_3 := (HB.out.cell (World.block_lt_of_cell? w _ hx143_3)).trans hx143_3
              replace hx143_4 := (HB.out.cell (World.block_lt_of_cell? w _ hx143_4)).trans hx143_4
              replace hx143_5 := (HB.out.cell (World.block_lt_of_cell? w _ hx143_5)).trans hx143_5
              replace hx143_6 := (HB.out.cell (World.block_lt_of_cell? w _ hx143_6)).trans hx143_6
              replace p143 := eq_true p143
              replace q143 := eq_true q143
              have hcz12_0 : wr.cell? ⟨gb140, 0, none⟩ = some (.int .i64 x141000_1) := (blk_cell BK140.out 0).trans rfl
              have hcz12_1 : wr.cell? ⟨gb140, 1, none⟩ = some (.int .i64 x141001_1) := (blk_cell BK140.out 1).trans rfl
              have hcz12_2 : wr.cell? ⟨gb140, 2, none⟩ = some (.int .i64 x141002_1) := (blk_cell BK140.out 2).trans rfl
              have hcz12_3 : wr.cell? ⟨gb140, 3, none⟩ = some (.int .i64 x141003_1) := (blk_cell BK140.out 3).trans rfl
              have hfz12_0 := blk_frozen BK140.out 0
              have hfz12_1 := blk_frozen BK140.out 1
              have hfz12_2 := blk_frozen BK140.out 2
              have hfz12_3 := blk_frozen BK140.out 3
              go_wp2
              repeat (go_quiet (fail); try go_wp2)
              refine bodyPost_ret (results_ct rfl _ _ gb140 31 #[.int .i64 ((rd_T87 l0 x8_1).f2.f0), .int .i64 ((rd_T87 l0 x8_1).f2.f1), .int .i64 ((rd_T87 l0 x8_1).f2.f2), .int .i64 ((rd_T87 l0 x8_1).f2.f3)] (0, 0) _ rfl (by (with_reducible repeat (first | refine blk_drewN ?_ _ | refine blk_drew ?_ | refine blk_alloc ?_ _)); refine blk_put (cs := #[.int .i64 ((rd_T87 l0 x8_1).f2.f0), .int .i64 ((rd_T87 l0 x8_1).f2.f1), .int .i64 ((rd_T87 l0 x8_1).f2.f2), .int .i64 x141003_1]) ?_ 3 _ rfl; (with_reducible repeat (first | refine blk_drewN ?_ _ | refine blk_drew ?_ | refine blk_alloc ?_ _)); refine blk_put (cs := #[.int .i64 ((rd_T87 l0 x8_1).f2.f0), .int .i64 ((rd_T87 l0 x8_1).f2.f1), .int .i64 x141002_1, .int .i64 x141003_1]) ?_ 2 _ rfl; (with_reducible repeat (first | refine blk_drewN ?_ _ | refine blk_drew ?_ | refine blk_alloc ?_ _)); refine blk_put (cs := #[.int .i64 ((rd_T87 l0 x8_1).f2.f0), .int .i64 x141001_1, .int .i64 x141002_1, .int .i64 x141003_1]) ?_ 1 _ rfl; (with_reducible repeat (first | refine blk_drewN ?_ _ | refine blk_drew ?_ | refine blk_alloc ?_ _)); refine blk_put (cs := #[.int .i64 x141000_1, .int .i64 x141001_1, .int .i64 x141002_1, .int .i64 x141003_1]) ?_ 0 _ rfl; (with_reducible repeat (first | refine blk_drewN ?_ _ | refine blk_drew ?_ | refine blk_alloc ?_ _)); exact BK140.out) Try.underlying31 rfl (by kernel_rfl)) rfl ?_
              exact ⟨by first | rfl | (simp [errW_none, errW_some] <;> rfl) | (simp [*, errW_none, errW_some] <;> rfl), by repeat (first | (with_reducible first | exact HB.out | apply below_alloc | apply pw_below_drewN | apply below_drew1 | refine below_set ?_ GE139.out | refine below_set ?_ GE140.out) | exact HB.out)⟩
            · rw [if_neg c9] at H
              have c9b0 : (((rd_T87 l0 x8_1).f1.f0) == a2_0 && (((rd_T87 l0 x8_1).f1.f1) == a2_1)) = false := by simpa using c9
              (try (have c9b1 : decide (((rd_T87 l0 x8_1).f1.f0) = a2_0 && (((rd_T87 l0 x8_1).f1.f1) == a2_1)) = false := by simpa using c9))
              (try (have c9b2 : (((rd_T87 l0 x8_1).f1.f0) == a2_0 && (((rd_T87 l0 x8_1).f1.f1) == a2_1)) = false := by simpa using c9))
              (try (have c9b3 : ¬ (((rd_T87 l0 x8_1).f1.f0) = a2_0 && (((rd_T87 l0 x8_1).f1.f1) == a2_1)) := by simpa using c9))
              clear c9
              have H' := Aside0.mk H
              clear H
              have p141 : 0 ≤ (x8_1 : Int) := of_decide_eq_true (by first | (with_reducible assumption) | assumption)
              have q141 : x8_1 < (l0.length : Int) := of_decide_eq_true (by first | (with_reducible assumption) | assumption)
              obtain ⟨ad141, e141, hx141_0, hx141_1, hx141_2, hx141_3, hx141_4, hx141_5, hx141_6⟩ := at_T87 HR0.out x8_1 p141 q141
              cases e141
              replace hx141_0 := (HB.out.cell (World.block_lt_of_cell? w _ hx141_0)).trans hx141_0
              replace hx141_1 := (HB.out.cell (World.block_lt_of_cell? w _ hx141_1)).trans hx141_1
              replace hx141_2 := (HB.out.cell (World.block_lt_of_cell? w _ hx141_2)).trans hx141_2
              replace hx141_3 := (HB.out.cell (World.block_lt_of_cell? w _ hx141_3)).trans hx141_3
              replace hx141_4 := (HB.out.cell (World.block_lt_of_cell? w _ hx141_4)).trans hx141_4
              replace hx141_5 := (HB.out.cell (World.block_lt_of_cell? w _ hx141_5)).trans hx141_5
              replace hx141_6 := (HB.out.cell (World.block_lt_of_cell? w _ hx141_6)).trans hx141_6
              replace p141 := eq_true p141
              replace q141 := eq_true q141
              have p142 : 0 ≤ (x8_1 : Int) := of_decide_eq_true (by first | (with_reducible assumption) | assumption)
              have q142 : x8_1 < (l0.length : Int) := of_decide_eq_true (by first | (with_reducible assumption) | assumption)
              obtain ⟨ad142, e142, hx142_0, hx142_1, hx142_2, hx142_3, hx142_4, hx142_5, hx142_6⟩ := at_T87 HR0.out x8_1 p142 q142
              obtain rfl : ad141 = ad142 := (by injection e142)
              replace hx142_0 := (HB.out.cell (World.block_lt_of_cell? w _ hx142_0)).trans hx142_0
              replace hx142_1 := (HB.out.cell (World.block_lt_of_cell? w _ hx142_1)).trans hx142_1
              replace hx142_2 := (HB.out.cell (World.block_lt_of_cell? w _ hx142_2)).trans hx142_2
              replace hx142_3 := (HB.out.cell (World.block_lt_of_cell? w _ hx142_3)).trans hx142_3
              replace hx142_4 := (HB.out.cell (World.block_lt_of_cell? w _ hx142_4)).trans hx142_4
              replace hx142_5 := (HB.out.cell (World.block_lt_of_cell? w _ hx142_5)).trans hx142_5
              replace hx142_6 := (HB.out.cell (World.block_lt_of_cell? w _ hx142_6)).trans hx142_6
              replace p142 := eq_true p142
              replace q142 := eq_true q142
              have hnb13 := NB139_140.out
              have hnc13 := NB140_139.out
              have hcz14_0 : wr.cell? ⟨gb139, 0, none⟩ = some (.int .i64 a2_0) := (blk_cell BK139.out 0).trans rfl
              have hcz14_1 : wr.cell? ⟨gb139, 1, none⟩ = some (.int .i64 a2_1) := (blk_cell BK139.out 1).trans rfl
              have hfz14_0 := blk_frozen BK139.out 0
              have hfz14_1 := blk_frozen BK139.out 1
              go_wp2
              repeat (go_quiet (fail); try go_wp2)
              go_roundg k1
              case measure => have := HK1.out; omega
              case rel => exact ⟨(wrap64 (x8_1 + 1)), (x141000_1), (x141001_1), (x141002_1), (x141003_1), (by first | rfl | (simp; done) | (simp [*]; done)), H', ⟨by have := HK1.out; omega⟩, ⟨by (with_reducible repeat (first | refine blk_drewN ?_ _ | refine blk_drew ?_ | refine blk_alloc ?_ _)); exact BK139.out⟩, ⟨by (with_reducible repeat (first | refine blk_drewN ?_ _ | refine blk_drew ?_ | refine blk_alloc ?_ _)); exact BK140.out⟩, ⟨by repeat (first | (with_reducible first | exact HB.out | apply below_alloc | apply pw_below_drewN | apply below_drew1 | refine below_set ?_ GE139.out | refine below_set ?_ GE140.out) | exact HB.out)⟩⟩
          · rw [if_neg c8] at H
            have c8b0 : (((rd_T87 l0 x8_1).f0) == a1) = false := beq_eq_false_iff_ne.mpr c8
            have c8b1 : (((rd_T87 l0 x8_1).f0) != a1) = true := bne_iff_ne.mpr c8
            have H' := Aside0.mk H
            clear H
            have p141 : 0 ≤ (x8_1 : Int) := of_decide_eq_true (by first | (with_reducible assumption) | assumption)
            have q141 : x8_1 < (l0.length : Int) := of_decide_eq_true (by first | (with_reducible assumption) | assumption)
            obtain ⟨ad141, e141, hx141_0, hx141_1, hx141_2, hx141_3, hx141_4, hx141_5, hx141_6⟩ := at_T87 HR0.out x8_1 p141 q141
            cases e141
            replace hx141_0 := (HB.out.cell (World.block_lt_of_cell? w _ hx141_0)).trans hx141_0
            replace hx141_1 := (HB.out.cell (World.block_lt_of_cell? w _ hx141_1)).trans hx141_1
            replace hx141_2 := (HB.out.cell (World.block_lt_of_cell? w _ hx141_2)).trans hx141_2
            replace hx141_3 := (HB.out.cell (World.block_lt_of_cell? w _ hx141_3)).trans hx141_3
            replace hx141_4 := (HB.out.cell (World.block_lt_of_cell? w _ hx141_4)).trans hx141_4
            replace hx141_5 := (HB.out.cell (World.block_lt_of_cell? w _ hx141_5)).trans hx141_5
            replace hx141_6 := (HB.out.cell (World.block_lt_of_cell? w _ hx141_6)).trans hx141_6
            replace p141 := eq_true p141
            replace q141 := eq_true q141
            go_wp2
            repeat (go_quiet (fail); try go_wp2)
            go_roundg k1
            case measure => have := HK1.out; omega
            case rel => exact ⟨(wrap64 (x8_1 + 1)), (x141000_1), (x141001_1), (x141002_1), (x141003_1), (by first | rfl | (simp; done) | (simp [*]; done)), H', ⟨by have := HK1.out; omega⟩, ⟨by (with_reducible repeat (first | refine blk_drewN ?_ _ | refine blk_drew ?_ | refine blk_alloc ?_ _)); exact BK139.out⟩, ⟨by (with_reducible repeat (first | refine blk_drewN ?_ _ | refine blk_drew ?_ | refine blk_alloc ?_ _)); exact BK140.out⟩, ⟨by repeat (first | (with_reducible first | exact HB.out | apply below_alloc | apply pw_below_drewN | apply below_drew1 | refine below_set ?_ GE139.out | refine below_set ?_ GE140.out) | exact HB.out)⟩⟩
        · rw [if_neg c7] at H
          exact absurd H (by simp)
      · rw [if_neg c6] at H
        have c6b0 : decide (x8_1 < (l0.length : Int)) = false := decide_eq_false c6
        clear c6
        simp only [Option.some.injEq, Prod.mk.injEq] at H
        obtain ⟨rfl, rfl, rfl, rfl, rfl⟩ := H
        have hnb15 := NB140_139.out
        have hnc15 := NB139_140.out
        have hcz16_0 : wr.cell? ⟨gb140, 0, none⟩ = some (.int .i64 x141000_1) := (blk_cell BK140.out 0).trans rfl
        have hcz16_1 : wr.cell? ⟨gb140, 1, none⟩ = some (.int .i64 x141001_1) := (blk_cell BK140.out 1).trans rfl
        have hcz16_2 : wr.cell? ⟨gb140, 2, none⟩ = some (.int .i64 x141002_1) := (blk_cell BK140.out 2).trans rfl
        have hcz16_3 : wr.cell? ⟨gb140, 3, none⟩ = some (.int .i64 x141003_1) := (blk_cell BK140.out 3).trans rfl
        have hfz16_0 := blk_frozen BK140.out 0
        have hfz16_1 := blk_frozen BK140.out 1
        have hfz16_2 := blk_frozen BK140.out 2
        have hfz16_3 := blk_frozen BK140.out 3
        go_wp2
        repeat (go_quiet (fail); try go_wp2)
        refine bodyPost_ret (results_ct rfl _ _ gb140 31 #[.int .i64 0, .int .i64 0, .int .i64 0, .int .i64 0] (0, 0) _ rfl (by (with_reducible repeat (first | refine blk_drewN ?_ _ | refine blk_drew ?_ | refine blk_alloc ?_ _)); refine blk_put (cs := #[.int .i64 0, .int .i64 0, .int .i64 0, .int .i64 x141003_1]) ?_ 3 _ rfl; (with_reducible repeat (first | refine blk_drewN ?_ _ | refine blk_drew ?_ | refine blk_alloc ?_ _)); refine blk_put (cs := #[.int .i64 0, .int .i64 0, .int .i64 x141002_1, .int .i64 x141003_1]) ?_ 2 _ rfl; (with_reducible repeat (first | refine blk_drewN ?_ _ | refine blk_drew ?_ | refine blk_alloc ?_ _)); refine blk_put (cs := #[.int .i64 0, .int .i64 x141001_1, .int .i64 x141002_1, .int .i64 x141003_1]) ?_ 1 _ rfl; (with_reducible repeat (first | refine blk_drewN ?_ _ | refine blk_drew ?_ | refine blk_alloc ?_ _)); refine blk_put (cs := #[.int .i64 x141000_1, .int .i64 x141001_1, .int .i64 x141002_1, .int .i64 x141003_1]) ?_ 0 _ rfl; (with_reducible repeat (first | refine blk_drewN ?_ _ | refine blk_drew ?_ | refine blk_alloc ?_ _)); exact BK140.out) Try.underlying31 rfl (by kernel_rfl)) rfl ?_
        exact ⟨by first | rfl | (simp [errW_none, errW_some] <;> rfl) | (simp [*, errW_none, errW_some] <;> rfl), by repeat (first | (with_reducible first | exact HB.out | apply below_alloc | apply pw_below_drewN | apply below_drew1 | refine below_set ?_ GE139.out | refine below_set ?_ GE140.out) | exact HB.out)⟩

-- NOT PRINTED: function 63 (impl_TabRow)


/-! ### impl_TabFind: function 22 -/
/-- A row is of a key and a window. -/
def impl_TabFind.is (key a b : Int) (x : S87) : Bool := decide (x.f0 = key) && (x.f1.f0 == a && (x.f1.f1 == b))
def impl_TabFind.f (l0 : List (S87)) (a1 : Int) (a2_0 : Int) (a2_1 : Int) : Option (Int × Int × Int × Int × Bool) :=
  some (match l0.find? (impl_TabFind.is a1 a2_0 a2_1) with | some x => (x.f2.f0, x.f2.f1, x.f2.f2, x.f2.f3, true) | none => (0, 0, 0, 0, false))
set_option maxHeartbeats 8000000 in
set_option maxRecDepth 100000 in
theorem impl_TabFind.of_calls (x0 x1 x2 x3 x4 x5 x6 key a b : Int) (w : World) :
    Calls Try.prog 65 #[.agg #[.int .i64 x0, .int .i64 x1, .int .i64 x2, .int .i64 x3, .int .i64 x4, .int .i64 x5, .int .i64 x6], .int .i64 key, .agg #[.int .i64 a, .int .i64 b]] w fun e w' => e = .returned (.bool (impl_TabFind.is key a b ⟨x0, ⟨x1, x2⟩, ⟨x3, x4, x5, x6⟩⟩)) ∧ Below w.heap.size w w' := by
  have hu1 := Try.underlying87
  have hu2 := Try.underlying34
  by_cases c : x0 = key
  · have c0 : (x0 == key) = true := beq_iff_eq.mpr c
    have e : impl_TabFind.is key a b ⟨x0, ⟨x1, x2⟩, ⟨x3, x4, x5, x6⟩⟩ = (x1 == a && (x2 == b)) := by unfold impl_TabFind.is; simp only; rw [decide_eq_true c]; rfl
    rw [e]
    clear c e
    go_enter Try.func65, Try.ntmps65
    go_wp2
    all_goals
      go_ret
      exact ⟨by first | rfl | (simp_all; done) | (simp; done), by repeat (first | exact Below.refl _ _ | apply below_alloc)⟩
  · have c0 : (x0 == key) = false := beq_eq_false_iff_ne.mpr c
    have e : impl_TabFind.is key a b ⟨x0, ⟨x1, x2⟩, ⟨x3, x4, x5, x6⟩⟩ = false := by unfold impl_TabFind.is; simp only; rw [decide_eq_false c]; rfl
    rw [e]
    clear c e
    go_enter Try.func65, Try.ntmps65
    go_wp2
    go_ret
    exact ⟨rfl, by repeat (first | exact Below.refl _ _ | apply below_alloc)⟩
set_option maxHeartbeats 8000000 in
set_option maxRecDepth 100000 in
theorem impl_TabFind.fn_calls (x : S87) (key a b : Int) (bk bw : Nat) (w : World) (hk : w.heap[bk]? = some (.cells #[.int .i64 key] 3 (0, 0))) (hw : w.heap[bw]? = some (.cells #[.int .i64 a, .int .i64 b] 34 (0, 0))) :
    Calls Try.prog 64 #[.agg #[.int .i64 x.f0, .int .i64 x.f1.f0, .int .i64 x.f1.f1, .int .i64 x.f2.f0, .int .i64 x.f2.f1, .int .i64 x.f2.f2, .int .i64 x.f2.f3], .pointer (some ⟨bk, 0, none⟩), .pointer (some ⟨bw, 0, none⟩)] w fun e w' => e = .returned (.bool (impl_TabFind.is key a b x)) ∧ Below w.heap.size w w' := by
  have hu1 := Try.underlying87
  have hu2 := Try.underlying34
  have f1 : ∀ o : Obj, (w.alloc o).cell? ⟨bk, 0, none⟩ = some (.int .i64 key) := fun o => (blk_cell (blk_alloc hk o) 0).trans rfl
  have f2 : ∀ o : Obj, (w.alloc o).cell? ⟨bw, 0, none⟩ = some (.int .i64 a) := fun o => (blk_cell (blk_alloc hw o) 0).trans rfl
  have f3 : ∀ o : Obj, (w.alloc o).cell? ⟨bw, 1, none⟩ = some (.int .i64 b) := fun o => (blk_cell (blk_alloc hw o) 1).trans rfl
  clear hk hw
  go_enter Try.func64, Try.ntmps64
  go_wp2_with (go_at_call 65; refine (impl_TabFind.of_calls _ _ _ _ _ _ _ key a b _).mono ?_; rintro e w' ⟨rfl, hb⟩)
  go_ret
  exact ⟨rfl, below_step (by repeat (first | exact Below.refl _ _ | apply below_alloc)) hb⟩
/-- The place of the first row, or -1. -/
def impl_TabFind.Told (l0 : List (S87)) (key a b : Int) (e : Ending) : Prop :=
  (∃ j : Nat, e = .returned (.int .i64 j) ∧ j < l0.length ∧ l0.find? (impl_TabFind.is key a b) = l0[j]?) ∨ (e = .returned (.int .i64 (-1)) ∧ l0.find? (impl_TabFind.is key a b) = none)
set_option maxHeartbeats 8000000 in
set_option maxRecDepth 100000 in
theorem impl_TabFind.index_calls (A0 : Option Addr) (c0 : Nat) (l0 : List (S87)) (key a b : Int) (bk bw : Nat) (w : World) (hr0 : Kd.C k87 w A0 l0.length l0) (hc0 : l0.length ≤ c0) (hk : w.heap[bk]? = some (.cells #[.int .i64 key] 3 (0, 0))) (hw : w.heap[bw]? = some (.cells #[.int .i64 a, .int .i64 b] 34 (0, 0))) :
    Calls Try.prog 63 #[.slice A0 l0.length c0, .func (.func 64) #[] #[.pointer (some ⟨bk, 0, none⟩), .pointer (some ⟨bw, 0, none⟩)]] w fun e w' => impl_TabFind.Told l0 key a b e ∧ Below w.heap.size w w' := by
  have hlen : l0.length ≤ 9223372036854775807 := hr0.2.1
  have HR0 := Aside0.mk hr0
  have HKK := Aside0.mk hk
  have HWW := Aside0.mk hw
  have HC0 := Aside0.mk hc0
  have HB := Aside0.mk (Below.refl w.heap.size w)
  clear hr0 hk hw hc0
  have hu1 := Try.underlying87
  have hu2 := Try.underlying34
  go_enter Try.func63, Try.ntmps63
  go_wp2
  go_loopw [8] (fun v8 wr => ∃ x8 : Int, v8 = .int .i64 x8 ∧ 0 ≤ x8 ∧ x8 ≤ l0.length ∧ Aside0 ((l0.take x8.toNat).find? (impl_TabFind.is key a b) = none) ∧ Aside0 (Below w.heap.size w wr)) (fun v8 _ => l0.length - (intOf v8).toNat)
  case atStart => exact ⟨0, rfl, Int.le_refl _, by omega, ⟨by simp⟩, HB⟩
  case round =>
    clear HB
    obtain ⟨x8, rfl, h0, h1, HF, HB⟩ := hrel
    by_cases c : x8 < (l0.length : Int)
    · have hj : x8.toNat < l0.length := by omega
      have hrd : rd_T87 l0 x8 = l0[x8.toNat] := by simp [rd_T87, List.getD_eq_getElem?_getD, hj]
      have HJ := Aside0.mk hj
      have HRD := Aside0.mk (show rd_T87 l0 x8 = l0[x8.toNat]'(HJ.out) from hrd)
      have HW9 := Aside0.mk (show wrap64 (x8 + 1) = x8 + 1 by unfold wrap64; omega)
      obtain ⟨ad1, e1, hx0, hx1, hx2, hx3, hx4, hx5, hx6⟩ := at_T87 HR0.out x8 h0 c
      cases e1
      have hc1 : decide (x8 < (l0.length : Int)) = true := decide_eq_true c
      replace hx0 := (HB.out.cell (World.block_lt_of_cell? w _ hx0)).trans hx0
      replace hx1 := (HB.out.cell (World.block_lt_of_cell? w _ hx1)).trans hx1
      replace hx2 := (HB.out.cell (World.block_lt_of_cell? w _ hx2)).trans hx2
      replace hx3 := (HB.out.cell (World.block_lt_of_cell? w _ hx3)).trans hx3
      replace hx4 := (HB.out.cell (World.block_lt_of_cell? w _ hx4)).trans hx4
      replace hx5 := (HB.out.cell (World.block_lt_of_cell? w _ hx5)).trans hx5
      replace hx6 := (HB.out.cell (World.block_lt_of_cell? w _ hx6)).trans hx6
      have HBK := Aside0.mk (blk_below HKK.out HB.out)
      have HBW := Aside0.mk (blk_below HWW.out HB.out)
      have hp : (0 ≤ x8) = True := eq_true h0
      have hq : (x8 < (l0.length : Int)) = True := eq_true c
      clear hrd hj h0 c
      cases hb : impl_TabFind.is key a b (rd_T87 l0 x8) with
      | true =>
        have HT := Aside0.mk hb
        clear hb
        go_wp2_with (go_at_call 64; refine (impl_TabFind.fn_calls (rd_T87 l0 x8) key a b bk bw _ HBK.out HBW.out).mono ?_; rintro e w' ⟨he, hb⟩; rw [HT.out] at he; subst he; have HB2 := Aside0.mk (below_step HB.out hb); clear hb)
        go_ret
        refine ⟨.inl ⟨x8.toNat, ?_, HJ.out, ?_⟩, HB2.out⟩
        · rw [Int.toNat_of_nonneg (of_eq_true hp)]; rfl
        · have hd : l0 = l0.take x8.toNat ++ (l0[x8.toNat]'HJ.out :: l0.drop (x8.toNat + 1)) := by rw [← List.drop_eq_getElem_cons HJ.out, List.take_append_drop]
          have ht := HT.out
          rw [HRD.out] at ht
          rw [List.getElem?_eq_getElem HJ.out]
          conv => lhs; rw [hd]
          rw [List.find?_append, HF.out, List.find?_cons_of_pos ht]
          rfl
      | false =>
        have HT := Aside0.mk hb
        clear hb
        go_wp2_with (go_at_call 64; refine (impl_TabFind.fn_calls (rd_T87 l0 x8) key a b bk bw _ HBK.out HBW.out).mono ?_; rintro e w' ⟨he, hb⟩; rw [HT.out] at he; subst he; have HB2 := Aside0.mk (below_step HB.out hb); clear hb)
        go_roundw
        case rel =>
          have h0 := of_eq_true hp
          have hj := HJ.out
          refine ⟨x8 + 1, ?_, by omega, by omega, ⟨?_⟩, HB2⟩
          · first | rfl | rw [HW9.out]
          · have ht := HT.out
            rw [HRD.out] at ht
            rw [show (x8 + 1).toNat = x8.toNat + 1 by omega, List.take_succ_eq_append_getElem HJ.out, List.find?_append, HF.out, List.find?_cons_of_neg (by simpa using ht)]
            rfl
        case measure =>
          have h0 := of_eq_true hp
          have hj := HJ.out
          simp [intOf, HW9.out]
          omega
    · have hc1 : decide (x8 < (l0.length : Int)) = false := decide_eq_false c
      go_wp2
      go_ret
      refine ⟨.inr ⟨rfl, ?_⟩, HB.out⟩
      have hf := HF.out
      rw [List.take_of_length_le (by omega)] at hf
      exact hf
set_option maxHeartbeats 8000000 in
set_option maxRecDepth 100000 in
theorem impl_TabFind.calls (A0 : Option Addr) (c0 : Nat) (l0 : List (S87)) (a1 : Int) (a2_0 : Int) (a2_1 : Int) (r1 : Int) (r2 : Int) (r3 : Int) (r4 : Int) (r5 : Bool) (w : World) (hr0 : Kd.C k87 w A0 l0.length l0) (hc0 : l0.length ≤ c0) (h : impl_TabFind.f l0 a1 a2_0 a2_1 = some (r1, r2, r3, r4, r5)) :
    Calls Try.prog 22 #[.slice A0 l0.length c0, .int .i64 a1, .agg #[.int .i64 a2_0, .int .i64 a2_1]] w fun e w' => e = .returned (.tuple #[.agg #[.int .i64 r1, .int .i64 r2, .int .i64 r3, .int .i64 r4], .bool r5]) ∧ Below w.heap.size w w' := by
  have hlen : l0.length ≤ 9223372036854775807 := hr0.2.1
  have hmf : ∀ (fn : Fn) (first cap : Array Value) (w : World), (Instr.makeFunc fn first cap).run Try.prog w = .ok (.func fn first cap) w := fun _ _ _ _ => rfl
  have hu1 := Try.underlying87
  have hu2 := Try.underlying34
  have hu3 := Try.underlying31
  have HR0 := Aside0.mk hr0
  have HC0 := Aside0.mk hc0
  have H := Aside0.mk h
  clear hr0 hc0 h
  go_enter Try.func22, Try.ntmps22
  go_wp2_with fail
  have HB0 := Aside0.mk (show Below w.heap.size w (((w.alloc (.cells #[.int .i64 a1] 3)).alloc (.cells #[.int .i64 a2_0, .int .i64 a2_1] 34)).alloc (.cells #[.int .i64 0, .int .i64 0, .int .i64 0, .int .i64 0] 31)) from by repeat (first | exact Below.refl _ _ | apply below_alloc))
  have HA0 := Aside0.mk (show (((w.alloc (.cells #[.int .i64 a1] 3)).alloc (.cells #[.int .i64 a2_0, .int .i64 a2_1] 34)).alloc (.cells #[.int .i64 0, .int .i64 0, .int .i64 0, .int .i64 0] 31)).heap[w.heap.size + 1 + 1]? = some (.cells #[.int .i64 0, .int .i64 0, .int .i64 0, .int .i64 0] 31 (0, 0)) from by
    have h := heap_alloc_new ((w.alloc (.cells #[.int .i64 a1] 3)).alloc (.cells #[.int .i64 a2_0, .int .i64 a2_1] 34)) (.cells #[.int .i64 0, .int .i64 0, .int .i64 0, .int .i64 0] 31)
    simpa using h)
  have HK0 := Aside0.mk (show (((w.alloc (.cells #[.int .i64 a1] 3)).alloc (.cells #[.int .i64 a2_0, .int .i64 a2_1] 34)).alloc (.cells #[.int .i64 0, .int .i64 0, .int .i64 0, .int .i64 0] 31)).heap[w.heap.size]? = some (.cells #[.int .i64 a1] 3 (0, 0)) from blk_alloc (blk_alloc (heap_alloc_new w _) _) _)
  have HW0 := Aside0.mk (show (((w.alloc (.cells #[.int .i64 a1] 3)).alloc (.cells #[.int .i64 a2_0, .int .i64 a2_1] 34)).alloc (.cells #[.int .i64 0, .int .i64 0, .int .i64 0, .int .i64 0] 31)).heap[w.heap.size + 1]? = some (.cells #[.int .i64 a2_0, .int .i64 a2_1] 34 (0, 0)) from by
    have h := heap_alloc_new (w.alloc (.cells #[.int .i64 a1] 3)) (.cells #[.int .i64 a2_0, .int .i64 a2_1] 34)
    exact blk_alloc (by simpa using h) _)
  refine (impl_TabFind.index_calls A0 c0 l0 a1 a2_0 a2_1 w.heap.size (w.heap.size + 1) _ (Kd.C_below HR0.out HB0.out) HC0.out HK0.out HW0.out).mono ?_
  rintro e w1 ⟨ht, hb⟩
  have HB := Aside0.mk (below_step HB0.out hb)
  have HBA := Aside0.mk (blk_below HA0.out hb)
  clear hb HK0 HW0 HB0 HA0
  have hg : w.heap.size ≤ w.heap.size + 1 + 1 := by omega
  have hcz0 : w1.cell? ⟨w.heap.size + 1 + 1, 0, none⟩ = some (.int .i64 0) := (blk_cell HBA.out 0).trans rfl
  have hcz1 : w1.cell? ⟨w.heap.size + 1 + 1, 1, none⟩ = some (.int .i64 0) := (blk_cell HBA.out 1).trans rfl
  have hcz2 : w1.cell? ⟨w.heap.size + 1 + 1, 2, none⟩ = some (.int .i64 0) := (blk_cell HBA.out 2).trans rfl
  have hcz3 : w1.cell? ⟨w.heap.size + 1 + 1, 3, none⟩ = some (.int .i64 0) := (blk_cell HBA.out 3).trans rfl
  have hfz0 := blk_frozen HBA.out 0
  have hfz1 := blk_frozen HBA.out 1
  have hfz2 := blk_frozen HBA.out 2
  have hfz3 := blk_frozen HBA.out 3
  have HG := Aside0.mk hg
  clear hg
  unfold impl_TabFind.Told at ht
  rcases ht with ⟨j, rfl, hj, hf⟩ | ⟨rfl, hf⟩
  · have hH := H.out
    unfold impl_TabFind.f at hH
    rw [hf, List.getElem?_eq_getElem hj] at hH
    have hrd : rd_T87 l0 (j : Int) = l0[j] := by simp [rd_T87, List.getD_eq_getElem?_getD, hj]
    simp only [Option.some.injEq, Prod.mk.injEq, ← hrd] at hH
    obtain ⟨rfl, rfl, rfl, rfl, rfl⟩ := hH
    obtain ⟨ad1, e1, hx0, hx1, hx2, hx3, hx4, hx5, hx6⟩ := at_T87 HR0.out (j : Int) (by omega) (by omega)
    cases e1
    replace hx3 := (HB.out.cell (World.block_lt_of_cell? w _ hx3)).trans hx3
    replace hx4 := (HB.out.cell (World.block_lt_of_cell? w _ hx4)).trans hx4
    replace hx5 := (HB.out.cell (World.block_lt_of_cell? w _ hx5)).trans hx5
    replace hx6 := (HB.out.cell (World.block_lt_of_cell? w _ hx6)).trans hx6
    clear hx0 hx1 hx2 H hf hrd
    have hc0 : decide ((j : Int) < 0) = false := decide_eq_false (by omega)
    have hp : (0 ≤ (j : Int)) = True := eq_true (by omega)
    have hq : ((j : Int) < (l0.length : Int)) = True := eq_true (by omega)
    generalize hjj : (j : Int) = jj at *
    have HJJ := Aside0.mk hjj
    clear hj hjj
    go_wp2
    refine bodyPost_ret (results_ct rfl _ _ (w.heap.size + 1 + 1) 31 #[.int .i64 ((rd_T87 l0 jj).f2.f0), .int .i64 ((rd_T87 l0 jj).f2.f1), .int .i64 ((rd_T87 l0 jj).f2.f2), .int .i64 ((rd_T87 l0 jj).f2.f3)] (0, 0) _ rfl (by refine blk_put (cs := #[.int .i64 ((rd_T87 l0 jj).f2.f0), .int .i64 ((rd_T87 l0 jj).f2.f1), .int .i64 ((rd_T87 l0 jj).f2.f2), .int .i64 0]) ?_ 3 _ rfl; refine blk_put (cs := #[.int .i64 ((rd_T87 l0 jj).f2.f0), .int .i64 ((rd_T87 l0 jj).f2.f1), .int .i64 0, .int .i64 0]) ?_ 2 _ rfl; refine blk_put (cs := #[.int .i64 ((rd_T87 l0 jj).f2.f0), .int .i64 0, .int .i64 0, .int .i64 0]) ?_ 1 _ rfl; refine blk_put (cs := #[.int .i64 0, .int .i64 0, .int .i64 0, .int .i64 0]) ?_ 0 _ rfl; exact HBA.out) Try.underlying31 rfl (by kernel_rfl)) rfl ?_
    exact ⟨by first | rfl | (rw [HJJ.out]; rfl) | (rw [HJJ.out]) | (simp [HJJ.out]; done), by repeat (first | (with_reducible first | exact HB.out | refine below_set ?_ HG.out) | exact HB.out)⟩
  · have hH := H.out
    unfold impl_TabFind.f at hH
    rw [hf] at hH
    simp only [Option.some.injEq, Prod.mk.injEq] at hH
    obtain ⟨rfl, rfl, rfl, rfl, rfl⟩ := hH
    clear H hf
    go_wp2
    refine bodyPost_ret (results_ct rfl _ _ (w.heap.size + 1 + 1) 31 #[.int .i64 0, .int .i64 0, .int .i64 0, .int .i64 0] (0, 0) _ rfl (by refine blk_put (cs := #[.int .i64 0, .int .i64 0, .int .i64 0, .int .i64 0]) ?_ 3 _ rfl; refine blk_put (cs := #[.int .i64 0, .int .i64 0, .int .i64 0, .int .i64 0]) ?_ 2 _ rfl; refine blk_put (cs := #[.int .i64 0, .int .i64 0, .int .i64 0, .int .i64 0]) ?_ 1 _ rfl; refine blk_put (cs := #[.int .i64 0, .int .i64 0, .int .i64 0, .int .i64 0]) ?_ 0 _ rfl; exact HBA.out) Try.underlying31 rfl (by kernel_rfl)) rfl ?_
    exact ⟨by first | rfl | (simp; done), by repeat (first | (with_reducible first | exact HB.out | refine below_set ?_ HG.out) | exact HB.out)⟩

end Go.Proofs.Ytkmckalckafloaa.PFnExactTabFind
