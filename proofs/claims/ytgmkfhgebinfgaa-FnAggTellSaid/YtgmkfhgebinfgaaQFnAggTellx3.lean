/- Functions of the program as Lean functions, with their contracts, written by a program of mine over the kit's printer and in part by hand. No condition of its own. -/
import Derived.Test.YtgmkfhgebinfgaaQFnAggTellx0
import Derived.Test.YtgmkfhgebinfgaaQFnAggTellx1
import Derived.Test.YtgmkfhgebinfgaaQFnAggTellx2
namespace Go.Proofs.Ytgmkfhgebinfgaa.PFnAggTell
open Go.RowKit Go.Proofs.YtgmkfhgebinfgaaW.PrintWords Go.Proofs.YtgmkfhgebinfgaaW.PrintLast Go.Proofs.YtgmkfhgebinfgaaW.PrintMore
attribute [local go_sem] max2_int min2_int max_two min_two max_three min_three max_four min_four   -- for this text's walks alone
set_option linter.unusedVariables false
set_option linter.unusedSimpArgs false

/-! ### laws_FnAggTell: function 13 -/
def laws_FnAggTell.j0 : Nat → Int → Int → Bool → Int → Int → Int → Int → Option (Bool)
  | 0, _, _, _, _, _, _, _ => none
  | k + 1, x4, x5, x28, x169000, x169001, x169002, x169003 => if x28 = true then (if x5 = 0 then ((laws_frOk.f).bind fun t171 => (some t171)) else (some false)) else ((impl_AggAdd.f 0 0 0 0 3).bind fun bt172 => ((impl_AggAdd.f bt172.1 bt172.2.1 bt172.2.2.1 bt172.2.2.2 (-4)).bind fun bt176 => ((some (([x169000, x169001, x169002, x169003] : List Int) : List Int)).bind fun y181 => (if 0 ≤ (wrap64 (x4 - 1)) then (if (wrap64 (x4 - 1)) < (y181.length : Int) then (if x5 = (rd y181 (wrap64 (x4 - 1))) then ((impl_AggTell.f bt176.1 bt176.2.1 bt176.2.2.1 bt176.2.2.2 x4).bind fun t185 => ((some (([2, (-1), (-4), 3] : List Int) : List Int)).bind fun y186 => (if (wrap64 (x4 - 1)) < (y186.length : Int) then (some (t185 == (rd y186 (wrap64 (x4 - 1))))) else (none)))) else (some false)) else (none)) else (none)))))
def laws_FnAggTell.f (k : Nat) (l0 : List Int) : Option (Bool) := if (l0.length : Int) > 1048576 then (some true) else ((spec_DrawAggTell.f k l0).bind fun bt163 => ((impl_AggTell.f bt163.1 bt163.2.1 bt163.2.2.1 bt163.2.2.2.1 bt163.2.2.2.2).bind fun t169 => ((spec_AggTell.f bt163.1 bt163.2.1 bt163.2.2.1 bt163.2.2.2.1 bt163.2.2.2.2).bind fun t170 => (if t169 = t170 then (if bt163.2.2.2.2 < 1 then (laws_FnAggTell.j0 k bt163.2.2.2.2 t169 true bt163.1 bt163.2.1 bt163.2.2.1 bt163.2.2.2.1) else (laws_FnAggTell.j0 k bt163.2.2.2.2 t169 (decide (bt163.2.2.2.2 > 4)) bt163.1 bt163.2.1 bt163.2.2.1 bt163.2.2.2.1)) else (some false)))))
theorem laws_FnAggTell.mono_l : ∀ k, (∀ y0 y1 y2 y3 y4 y5 y6, LeO (laws_FnAggTell.j0 k y0 y1 y2 y3 y4 y5 y6) (laws_FnAggTell.j0 (k + 1) y0 y1 y2 y3 y4 y5 y6))
  | 0 => fun _ _ _ _ _ _ _ r h => by simp [laws_FnAggTell.j0] at h
  | k + 1 => by
    have ih0 := laws_FnAggTell.mono_l k
    · intro y0 y1 y2 y3 y4 y5 y6
      unfold laws_FnAggTell.j0
      repeat' first
      | (with_reducible exact ih0 _ _ _ _ _ _ _)
      | (with_reducible exact spec_DrawAggTell.mono _ _)
      | (with_reducible exact LeO.refl _)
      | (with_reducible exact LeO.none _)
      | (with_reducible refine LeO.ite ?_ ?_)
      | (with_reducible refine LeO.bind ?_ (fun _ => ?_))
      | exact ih0 _ _ _ _ _ _ _
      | exact spec_DrawAggTell.mono _ _
      | exact LeO.none _
      | refine LeO.ite ?_ ?_
      | refine LeO.bind ?_ (fun _ => ?_)
theorem laws_FnAggTell.mono : ∀ a0 k, LeO (laws_FnAggTell.f k a0) (laws_FnAggTell.f (k + 1) a0) := by
  intro a0 k
  have ih0 := laws_FnAggTell.mono_l k
  unfold laws_FnAggTell.f
  repeat' first
      | (with_reducible exact ih0 _ _ _ _ _ _ _)
      | (with_reducible exact spec_DrawAggTell.mono _ _)
      | (with_reducible exact LeO.refl _)
      | (with_reducible exact LeO.none _)
      | (with_reducible refine LeO.ite ?_ ?_)
      | (with_reducible refine LeO.bind ?_ (fun _ => ?_))
      | exact ih0 _ _ _ _ _ _ _
      | exact spec_DrawAggTell.mono _ _
      | exact LeO.none _
      | refine LeO.ite ?_ ?_
      | refine LeO.bind ?_ (fun _ => ?_)
def laws_FnAggTell.T10 : Bool × List (List Nat × List Nat) := (true, [([], []), ([], []), ([1], [1]), ([], []), ([3], [3]), ([], []), ([5], [5]), ([], []), ([7], [7]), ([2, 4, 6, 8], [2, 4, 6, 8]), ([], []), ([10], [10]), ([9, 11], [9, 11]), ([12], [12]), ([0, 13], [0, 13]), ([14], [14]), ([15], [15]), ([15], [15]), ([16, 17, 15, 15], [15, 16, 17]), ([15], [15]), ([15], [15]), ([20, 15], [15, 20]), ([19, 21, 15], [15, 19, 21]), ([22, 15], [15, 22]), ([18, 23, 15], [15, 18, 23]), ([15, 24], [15, 24]), ([25, 18, 0, 1, 2, 3, 4, 5, 6, 7, 8, 9, 10, 11, 12, 13, 14, 15, 16, 17, 18, 19, 20, 21, 22, 23, 24, 25], [25])])
def laws_FnAggTell.B10 : List Nat := [0, 0, 2, 0, 8, 0, 32, 0, 128, 510, 0, 1024, 4094, 8190, 16383, 32767, 65535, 65535, 262143, 65535, 65535, 1114111, 3735551, 7929855, 16777215, 33554431, 67108863]
theorem laws_FnAggTell.tab10 : rtab .any (opsOf Try.f13 10) = laws_FnAggTell.T10 := by kernel_rfl
theorem laws_FnAggTell.bits10 : waitsOk laws_FnAggTell.T10.2 laws_FnAggTell.B10 = true := by kernel_rfl
set_option maxHeartbeats 8000000 in
set_option maxRecDepth 100000 in
theorem laws_FnAggTell.calls (k : Nat) (A0 : Option Addr) (c0 : Nat) (l0 : List Int) (w : World) (hr0 : Kd.C (Kd.int .u8) w A0 l0.length l0) (hc0 : l0.length ≤ c0) (h : laws_FnAggTell.f k l0 = some true) :
    Calls Try.prog 13 #[.slice A0 l0.length c0] w fun e w' => e = .returned (.bool true) ∧ Below w.heap.size w w' := by
  have hu24 := Try.underlying24
  have HR0 := Aside0.mk hr0
  have HC0 := Aside0.mk hc0
  clear hr0 hc0
  have HB := Aside0.mk (Below.refl w.heap.size w)
  have H : (if (l0.length : Int) > 1048576 then (some true) else ((spec_DrawAggTell.f k l0).bind fun bt163 => ((impl_AggTell.f bt163.1 bt163.2.1 bt163.2.2.1 bt163.2.2.2.1 bt163.2.2.2.2).bind fun t169 => ((spec_AggTell.f bt163.1 bt163.2.1 bt163.2.2.1 bt163.2.2.2.1 bt163.2.2.2.2).bind fun t170 => (if t169 = t170 then (if bt163.2.2.2.2 < 1 then (laws_FnAggTell.j0 k bt163.2.2.2.2 t169 true bt163.1 bt163.2.1 bt163.2.2.1 bt163.2.2.2.1) else (laws_FnAggTell.j0 k bt163.2.2.2.2 t169 (decide (bt163.2.2.2.2 > 4)) bt163.1 bt163.2.1 bt163.2.2.1 bt163.2.2.2.1)) else (some false)))))) = some true := h
  clear h
  by_cases c2 : (l0.length : Int) > 1048576
  · rw [if_pos c2] at H
    have c2b0 : decide (1048576 < (l0.length : Int)) = true := decide_eq_true c2
    have c2b1 : decide (1048576 < l0.length) = true := decide_eq_true (by omega)
    clear c2
    clear H
    go_enter Try.func13, Try.ntmps13
    go_wp2
    go_ret
    exact ⟨by first | rfl | (refine congrArg (fun b_ => Ending.returned (Value.bool b_)) ?_; first | exact hrt_.out | simpa using hrt_.out | (have hq_ := hrt_.out; simp at hq_ ⊢; omega)) | (simp [errW_none, errW_some] <;> rfl) | (simp [*, errW_none, errW_some] <;> rfl), by repeat (first | (with_reducible first | exact HB.out | apply below_alloc | apply pw_below_drewN | apply below_drew1) | exact HB.out)⟩
  · rw [if_neg c2] at H
    have c2b0 : decide (1048576 < (l0.length : Int)) = false := decide_eq_false c2
    have c2b1 : decide (1048576 < l0.length) = false := decide_eq_false (by omega)
    clear c2
    replace H := Option.bind_eq_some_iff.mp H
    obtain ⟨⟨t163, t164, t165, t166, t167⟩, A30, H⟩ := H
    replace H : ((impl_AggTell.f t163 t164 t165 t166 t167).bind fun t169 => ((spec_AggTell.f t163 t164 t165 t166 t167).bind fun t170 => (if t169 = t170 then (if t167 < 1 then (laws_FnAggTell.j0 k t167 t169 true t163 t164 t165 t166) else (laws_FnAggTell.j0 k t167 t169 (decide (t167 > 4)) t163 t164 t165 t166)) else (some false)))) = some true := H
    have A3 := Aside0.mk A30
    clear A30
    replace H := Option.bind_eq_some_iff.mp H
    obtain ⟨t169, A40, H⟩ := H
    replace H : ((spec_AggTell.f t163 t164 t165 t166 t167).bind fun t170 => (if t169 = t170 then (if t167 < 1 then (laws_FnAggTell.j0 k t167 t169 true t163 t164 t165 t166) else (laws_FnAggTell.j0 k t167 t169 (decide (t167 > 4)) t163 t164 t165 t166)) else (some false))) = some true := H
    have A4 := Aside0.mk A40
    clear A40
    replace H := Option.bind_eq_some_iff.mp H
    obtain ⟨t170, A50, H⟩ := H
    replace H : (if t169 = t170 then (if t167 < 1 then (laws_FnAggTell.j0 k t167 t169 true t163 t164 t165 t166) else (laws_FnAggTell.j0 k t167 t169 (decide (t167 > 4)) t163 t164 t165 t166)) else (some false)) = some true := H
    have A5 := Aside0.mk A50
    clear A50
    by_cases c6 : t169 = t170
    · rw [if_pos c6] at H
      have c6b0 : (t169 == t170) = true := beq_iff_eq.mpr c6
      have c6b1 : (t169 != t170) = false := bne_eq_false_iff_eq.mpr c6
      clear c6
      have HC7 := Aside0.mk H
      clear H
      go_enter Try.func13, Try.ntmps13
      go_upto_region 7 with (first | ((with_reducible refine gate_callee (f := 53) rfl ?_); refine goesL_ (some 12) rfl rfl Try.func53 (by kernel_rfl) rfl #[.slice A0 l0.length c0] rfl (by (try simp only [List.map_toArray, List.map_cons, List.map_nil]); first | done | rfl | (simp only [List.length_drop, List.length_take]; rfl)) ?_; (with_reducible refine (spec_DrawAggTell.calls k _ _ l0 t163 t164 t165 t166 t167 _ ?side1 ?side2 A3.out).mono ?_); (case side1 => repeat (first | exact HR0.out | (with_reducible refine Kd.C_alloc ?_ _) | (with_reducible refine Kd.C_drewN ?_ _) | (with_reducible refine Kd.C_drew ?_))); (case side2 => exact HC0.out); rintro e w8 ⟨rfl, hb⟩; refine ⟨_, rfl, ?_⟩; have n0_ := Aside0.mk (below_step (by repeat (first | (with_reducible first | exact HB.out | apply below_alloc | apply pw_below_drewN | apply below_drew1) | exact HB.out)) hb); clear HB; have HB := n0_; clear n0_; (try clear hb); (try clear hb2); (try clear hk); (try clear hi)) | ((with_reducible refine gate_dst (N := 3) rfl ?_); (try (refine gate_guard (by rfl) ?_; dsimp only)); refine box_event ?hg (N := 3) ?hd (cs := #[.int .i64 0, .int .i64 0, .int .i64 0, .int .i64 0]) (t := 24) ?hr ?_; (case hd => rfl); (case hg => rfl); (case hr => first | (go_simp; done) | (go_simp; rfl)); intro gb168 hg w9 hbox hb; have n0_ := Aside0.mk (below_step (by repeat (first | (with_reducible first | exact HB.out | apply below_alloc | apply pw_below_drewN | apply below_drew1) | exact HB.out)) hb); have n1_ := Aside0.mk (hbox); have n2_ := Aside0.mk ((by rw [hg]; exact (below_size (by repeat (first | (with_reducible first | exact HB.out | apply below_alloc | apply pw_below_drewN | apply below_drew1) | exact HB.out))) : w.heap.size ≤ gb168)); have n3_ := Aside0.mk ((by rw [hg]; exact (below_size (by repeat (first | (with_reducible first | exact HB.out | apply below_alloc | apply pw_below_drewN | apply below_drew1) | exact HB.out))) : w.heap.size ≤ gb168)); clear HB; have HB := n0_; have BK168 := n1_; have GW168 := n2_; have GE168 := n3_; clear n0_ n1_ n2_ n3_; clear hb hbox hg; have hcz10_0 : w9.cell? ⟨gb168, 0, none⟩ = some (.int .i64 0) := (blk_cell BK168.out 0).trans rfl; have hcz10_1 : w9.cell? ⟨gb168, 1, none⟩ = some (.int .i64 0) := (blk_cell BK168.out 1).trans rfl; have hcz10_2 : w9.cell? ⟨gb168, 2, none⟩ = some (.int .i64 0) := (blk_cell BK168.out 2).trans rfl; have hcz10_3 : w9.cell? ⟨gb168, 3, none⟩ = some (.int .i64 0) := (blk_cell BK168.out 3).trans rfl; have hfz10_0 := blk_frozen BK168.out 0; have hfz10_1 := blk_frozen BK168.out 1; have hfz10_2 := blk_frozen BK168.out 2; have hfz10_3 := blk_frozen BK168.out 3) | ((with_reducible refine gate_callee (f := 54) rfl ?_); refine goesL_ (some 17) rfl rfl Try.func54 (by kernel_rfl) rfl #[.agg #[.int .i64 t163, .int .i64 t164, .int .i64 t165, .int .i64 t166], .int .i64 t167] rfl (by (try simp only [List.map_toArray, List.map_cons, List.map_nil]); first | done | rfl | (simp only [List.length_drop, List.length_take]; rfl)) ?_; (with_reducible refine (impl_AggTell.calls t163 t164 t165 t166 t167 t169 _ A4.out).mono ?_); rintro e w11 ⟨rfl, hb⟩; refine ⟨_, rfl, ?_⟩; have n0_ := Aside0.mk (blk_below (g := gb168) (o := .cells #[.int .i64 t163, .int .i64 t164, .int .i64 t165, .int .i64 t166] 24 (0, 0)) (by (with_reducible repeat (first | refine blk_drewN ?_ _ | refine blk_drew ?_ | refine blk_alloc ?_ _)); refine blk_put (cs := #[.int .i64 t163, .int .i64 t164, .int .i64 t165, .int .i64 0]) ?_ 3 _ rfl; (with_reducible repeat (first | refine blk_drewN ?_ _ | refine blk_drew ?_ | refine blk_alloc ?_ _)); refine blk_put (cs := #[.int .i64 t163, .int .i64 t164, .int .i64 0, .int .i64 0]) ?_ 2 _ rfl; (with_reducible repeat (first | refine blk_drewN ?_ _ | refine blk_drew ?_ | refine blk_alloc ?_ _)); refine blk_put (cs := #[.int .i64 t163, .int .i64 0, .int .i64 0, .int .i64 0]) ?_ 1 _ rfl; (with_reducible repeat (first | refine blk_drewN ?_ _ | refine blk_drew ?_ | refine blk_alloc ?_ _)); refine blk_put (cs := #[.int .i64 0, .int .i64 0, .int .i64 0, .int .i64 0]) ?_ 0 _ rfl; (with_reducible repeat (first | refine blk_drewN ?_ _ | refine blk_drew ?_ | refine blk_alloc ?_ _)); exact BK168.out) hb); have n1_ := Aside0.mk (below_step (by repeat (first | (with_reducible first | exact HB.out | apply below_alloc | apply pw_below_drewN | apply below_drew1 | refine below_set ?_ GE168.out) | exact HB.out)) hb); clear BK168; clear HB; have BK168 := n0_; have HB := n1_; clear n0_ n1_; (try clear hb); (try clear hb2); (try clear hk); (try clear hi); have hcz12_0 : w11.cell? ⟨gb168, 0, none⟩ = some (.int .i64 t163) := (blk_cell BK168.out 0).trans rfl; have hcz12_1 : w11.cell? ⟨gb168, 1, none⟩ = some (.int .i64 t164) := (blk_cell BK168.out 1).trans rfl; have hcz12_2 : w11.cell? ⟨gb168, 2, none⟩ = some (.int .i64 t165) := (blk_cell BK168.out 2).trans rfl; have hcz12_3 : w11.cell? ⟨gb168, 3, none⟩ = some (.int .i64 t166) := (blk_cell BK168.out 3).trans rfl; have hfz12_0 := blk_frozen BK168.out 0; have hfz12_1 := blk_frozen BK168.out 1; have hfz12_2 := blk_frozen BK168.out 2; have hfz12_3 := blk_frozen BK168.out 3) | ((with_reducible refine gate_callee (f := 55) rfl ?_); refine goesL_ (some 21) rfl rfl Try.func55 (by kernel_rfl) rfl #[.agg #[.int .i64 t163, .int .i64 t164, .int .i64 t165, .int .i64 t166], .int .i64 t167] rfl (by (try simp only [List.map_toArray, List.map_cons, List.map_nil]); first | done | rfl | (simp only [List.length_drop, List.length_take]; rfl)) ?_; (with_reducible refine (spec_AggTell.calls t163 t164 t165 t166 t167 t170 _ A5.out).mono ?_); rintro e w13 ⟨rfl, hb⟩; refine ⟨_, rfl, ?_⟩; have n0_ := Aside0.mk (blk_below (g := gb168) (o := .cells #[.int .i64 t163, .int .i64 t164, .int .i64 t165, .int .i64 t166] 24 (0, 0)) (by (with_reducible repeat (first | refine blk_drewN ?_ _ | refine blk_drew ?_ | refine blk_alloc ?_ _)); exact BK168.out) hb); have n1_ := Aside0.mk (below_step (by repeat (first | (with_reducible first | exact HB.out | apply below_alloc | apply pw_below_drewN | apply below_drew1 | refine below_set ?_ GE168.out) | exact HB.out)) hb); clear BK168; clear HB; have BK168 := n0_; have HB := n1_; clear n0_ n1_; (try clear hb); (try clear hb2); (try clear hk); (try clear hi)))
      (try simp only [Act.put, List.setIfInBounds_toArray, List.set_cons_zero, List.set_cons_succ])
      go_cut [28] (fun v28 wc => ∃ (kq : Nat) (x28_6 : Bool), v28 = .bool x28_6 ∧ Aside0 (laws_FnAggTell.j0 kq t167 t169 x28_6 t163 t164 t165 t166 = some true) ∧ Aside0 (kq ≤ k) ∧ Aside0 (wc.heap[gb168]? = some (.cells #[.int .i64 t163, .int .i64 t164, .int .i64 t165, .int .i64 t166] 24 (0, 0))) ∧ Aside0 (Below w.heap.size w wc))
      case first =>
        have H := HC7.out
        clear HC7
        by_cases c14 : t167 < 1
        · rw [if_pos c14] at H
          have c14b0 : decide (t167 < 1) = true := decide_eq_true c14
          clear c14
          (first | rw [c14b0] | (simp only [i64_w, i32_w]; rw [c14b0]) | skip)
          have H' := Aside0.mk H
          clear H
          go_wp2
          go_meet
          case rel => exact ⟨_, (true), (by first | rfl | (simp; done) | (simp [*]; done)), H', ⟨by first | omega | exact Nat.le_refl _⟩, ⟨by (with_reducible repeat (first | refine blk_drewN ?_ _ | refine blk_drew ?_ | refine blk_alloc ?_ _)); exact BK168.out⟩, ⟨by repeat (first | (with_reducible first | exact HB.out | apply below_alloc | apply pw_below_drewN | apply below_drew1 | refine below_set ?_ GE168.out) | exact HB.out)⟩⟩
        · rw [if_neg c14] at H
          have c14b0 : decide (t167 < 1) = false := decide_eq_false c14
          clear c14
          (first | rw [c14b0] | (simp only [i64_w, i32_w]; rw [c14b0]) | skip)
          have H' := Aside0.mk H
          clear H
          go_wp2
          go_meet
          case rel => exact ⟨_, (decide (t167 > 4)), (by first | rfl | (simp; done) | (simp [*]; done)), H', ⟨by first | omega | exact Nat.le_refl _⟩, ⟨by (with_reducible repeat (first | refine blk_drewN ?_ _ | refine blk_drew ?_ | refine blk_alloc ?_ _)); exact BK168.out⟩, ⟨by repeat (first | (with_reducible first | exact HB.out | apply below_alloc | apply pw_below_drewN | apply below_drew1 | refine below_set ?_ GE168.out) | exact HB.out)⟩⟩
      case rest =>
        clear HC7
        try clear c1
        try clear c2
        try clear c2b0
        try clear c2b1
        try clear p2
        try clear c5
        try clear c6
        try clear c6b0
        try clear c6b1
        try clear c13
        try clear c14
        try clear c14b0
        try clear hcz10_0
        try clear hcz10_1
        try clear hcz10_2
        try clear hcz10_3
        try clear hcz12_0
        try clear hcz12_1
        try clear hcz12_2
        try clear hcz12_3
        try clear hfz10_0
        try clear hfz10_1
        try clear hfz10_2
        try clear hfz10_3
        try clear hfz12_0
        try clear hfz12_1
        try clear hfz12_2
        try clear hfz12_3
        obtain ⟨kq, x28_6, rfl, HA, HJ6, BK168, HB⟩ := hcut
        cases kq with
        | zero => exact absurd HA.out (by simp [laws_FnAggTell.j0])
        | succ kj6 =>
          have H := HA.out
          clear HA
          simp only [laws_FnAggTell.j0] at H
          by_cases c15 : x28_6 = true
          · subst c15
            have H1 : (if t169 = 0 then ((laws_frOk.f).bind fun t171 => (some t171)) else (some false)) = some true := by rw [if_pos rfl] at H; exact H
            clear H
            have H := H1
            clear H1
            by_cases c16 : t169 = 0
            · rw [if_pos c16] at H
              have c16b0 : (t169 == 0) = true := beq_iff_eq.mpr c16
              have c16b1 : (t169 != 0) = false := bne_eq_false_iff_eq.mpr c16
              clear c16
              replace H := Option.bind_eq_some_iff.mp H
              obtain ⟨t171, A170, H⟩ := H
              replace H : (some t171) = some true := H
              have A17 := Aside0.mk A170
              clear A170
              have hrt_ := Aside0.mk (Option.some.inj H)
              clear H
              go_wp2_with (first | (go_at_call 26; (with_reducible refine (laws_frOk.calls  t171 _ A17.out).mono ?_); rintro e w18 ⟨rfl, hb⟩; have n0_ := Aside0.mk (blk_below (g := gb168) (o := .cells #[.int .i64 t163, .int .i64 t164, .int .i64 t165, .int .i64 t166] 24 (0, 0)) (by (with_reducible repeat (first | refine blk_drewN ?_ _ | refine blk_drew ?_ | refine blk_alloc ?_ _)); exact BK168.out) hb); have n1_ := Aside0.mk (below_step (by repeat (first | (with_reducible first | exact HB.out | apply below_alloc | apply pw_below_drewN | apply below_drew1 | refine below_set ?_ GE168.out) | exact HB.out)) hb); clear BK168; clear HB; have BK168 := n0_; have HB := n1_; clear n0_ n1_; (try clear hb); (try clear hb2); (try clear hk); (try clear hi)))
              go_ret
              exact ⟨by first | rfl | (refine congrArg (fun b_ => Ending.returned (Value.bool b_)) ?_; first | exact hrt_.out | simpa using hrt_.out | (have hq_ := hrt_.out; simp at hq_ ⊢; omega)) | (simp [errW_none, errW_some] <;> rfl) | (simp [*, errW_none, errW_some] <;> rfl), by repeat (first | (with_reducible first | exact HB.out | apply below_alloc | apply pw_below_drewN | apply below_drew1 | refine below_set ?_ GE168.out) | exact HB.out)⟩
            · rw [if_neg c16] at H
              have c16b0 : (t169 == 0) = false := beq_eq_false_iff_ne.mpr c16
              have c16b1 : (t169 != 0) = true := bne_iff_ne.mpr c16
              exact absurd H (by simp)
          · replace c15 := Bool.eq_false_iff.mpr c15
            subst c15
            have H1 : ((impl_AggAdd.f 0 0 0 0 3).bind fun bt172 => ((impl_AggAdd.f bt172.1 bt172.2.1 bt172.2.2.1 bt172.2.2.2 (-4)).bind fun bt176 => ((some (([t163, t164, t165, t166] : List Int) : List Int)).bind fun y181 => (if 0 ≤ (wrap64 (t167 - 1)) then (if (wrap64 (t167 - 1)) < (y181.length : Int) then (if t169 = (rd y181 (wrap64 (t167 - 1))) then ((impl_AggTell.f bt176.1 bt176.2.1 bt176.2.2.1 bt176.2.2.2 t167).bind fun t185 => ((some (([2, (-1), (-4), 3] : List Int) : List Int)).bind fun y186 => (if (wrap64 (t167 - 1)) < (y186.length : Int) then (some (t185 == (rd y186 (wrap64 (t167 - 1))))) else (none)))) else (some false)) else (none)) else (none))))) = some true := by rw [if_neg (show ¬ (false = true) by decide)] at H; exact H
            clear H
            have H := H1
            clear H1
            replace H := Option.bind_eq_some_iff.mp H
            obtain ⟨⟨t172, t173, t174, t175⟩, A190, H⟩ := H
            replace H : ((impl_AggAdd.f t172 t173 t174 t175 (-4)).bind fun bt176 => ((some (([t163, t164, t165, t166] : List Int) : List Int)).bind fun y181 => (if 0 ≤ (wrap64 (t167 - 1)) then (if (wrap64 (t167 - 1)) < (y181.length : Int) then (if t169 = (rd y181 (wrap64 (t167 - 1))) then ((impl_AggTell.f bt176.1 bt176.2.1 bt176.2.2.1 bt176.2.2.2 t167).bind fun t185 => ((some (([2, (-1), (-4), 3] : List Int) : List Int)).bind fun y186 => (if (wrap64 (t167 - 1)) < (y186.length : Int) then (some (t185 == (rd y186 (wrap64 (t167 - 1))))) else (none)))) else (some false)) else (none)) else (none)))) = some true := H
            have A19 := Aside0.mk A190
            clear A190
            replace H := Option.bind_eq_some_iff.mp H
            obtain ⟨⟨t176, t177, t178, t179⟩, A200, H⟩ := H
            replace H : ((some (([t163, t164, t165, t166] : List Int) : List Int)).bind fun y181 => (if 0 ≤ (wrap64 (t167 - 1)) then (if (wrap64 (t167 - 1)) < (y181.length : Int) then (if t169 = (rd y181 (wrap64 (t167 - 1))) then ((impl_AggTell.f t176 t177 t178 t179 t167).bind fun t185 => ((some (([2, (-1), (-4), 3] : List Int) : List Int)).bind fun y186 => (if (wrap64 (t167 - 1)) < (y186.length : Int) then (some (t185 == (rd y186 (wrap64 (t167 - 1))))) else (none)))) else (some false)) else (none)) else (none))) = some true := H
            have A20 := Aside0.mk A200
            clear A200
            obtain ⟨y181, hy181⟩ : ∃ y_ : List Int, y_ = (([t163, t164, t165, t166] : List Int)) := ⟨_, rfl⟩
            replace H : (if 0 ≤ (wrap64 (t167 - 1)) then (if (wrap64 (t167 - 1)) < (y181.length : Int) then (if t169 = (rd y181 (wrap64 (t167 - 1))) then ((impl_AggTell.f t176 t177 t178 t179 t167).bind fun t185 => ((some (([2, (-1), (-4), 3] : List Int) : List Int)).bind fun y186 => (if (wrap64 (t167 - 1)) < (y186.length : Int) then (some (t185 == (rd y186 (wrap64 (t167 - 1))))) else (none)))) else (some false)) else (none)) else (none)) = some true := by first | (rw [hy181]; with_reducible exact H) | (have H2_ := (Option.bind_some _ _).symm.trans H; rw [hy181]; with_reducible exact H2_) | (have H2_ := (Option.bind_some _ _).symm.trans H; with_reducible exact H2_) | with_reducible exact H | (rw [hy181]; exact H) | exact H
            have Ny181 := Aside0.mk hy181
            clear hy181
            obtain ⟨ji21, hji21⟩ : ∃ j_ : Int, (wrap64 (t167 - 1)) = j_ := ⟨_, rfl⟩
            replace H : (if 0 ≤ (ji21) then (if (ji21) < (y181.length : Int) then (if t169 = (rd y181 (ji21)) then ((impl_AggTell.f t176 t177 t178 t179 t167).bind fun t185 => ((some (([2, (-1), (-4), 3] : List Int) : List Int)).bind fun y186 => (if (ji21) < (y186.length : Int) then (some (t185 == (rd y186 (ji21)))) else (none)))) else (some false)) else (none)) else (none)) = some true := by first | (rw [hji21] at H; exact H) | (simp only [hji21] at H ⊢; exact H)
            (try rw [hji21] at A19)
            (try rw [hji21] at A20)
            have hji21w : (IntKind.i64.wrap (t167 - 1)) = ji21 := (i64_w _).trans hji21
            by_cases c22 : 0 ≤ (ji21)
            · rw [if_pos c22] at H
              have c22b0 : decide (0 ≤ (ji21)) = true := decide_eq_true c22
              clear c22
              by_cases c23 : (ji21) < (y181.length : Int)
              · rw [if_pos c23] at H
                have c23b0 : decide ((ji21) < (y181.length : Int)) = true := decide_eq_true c23
                clear c23
                by_cases c24 : t169 = (rd y181 (ji21))
                · rw [if_pos c24] at H
                  have c24b0 : (t169 == (rd y181 (ji21))) = true := beq_iff_eq.mpr c24
                  have c24b1 : (t169 != (rd y181 (ji21))) = false := bne_eq_false_iff_eq.mpr c24
                  clear c24
                  replace H := Option.bind_eq_some_iff.mp H
                  obtain ⟨t185, A250, H⟩ := H
                  replace H : ((some (([2, (-1), (-4), 3] : List Int) : List Int)).bind fun y186 => (if (ji21) < (y186.length : Int) then (some (t185 == (rd y186 (ji21)))) else (none))) = some true := H
                  have A25 := Aside0.mk A250
                  clear A250
                  obtain ⟨y186, hy186⟩ : ∃ y_ : List Int, y_ = (([2, (-1), (-4), 3] : List Int)) := ⟨_, rfl⟩
                  replace H : (if (ji21) < (y186.length : Int) then (some (t185 == (rd y186 (ji21)))) else (none)) = some true := by first | (rw [hy186]; with_reducible exact H) | (have H2_ := (Option.bind_some _ _).symm.trans H; rw [hy186]; with_reducible exact H2_) | (have H2_ := (Option.bind_some _ _).symm.trans H; with_reducible exact H2_) | with_reducible exact H | (rw [hy186]; exact H) | exact H
                  have Ny186 := Aside0.mk hy186
                  clear hy186
                  by_cases c26 : (ji21) < (y186.length : Int)
                  · rw [if_pos c26] at H
                    have c26b0 : decide ((ji21) < (y186.length : Int)) = true := decide_eq_true c26
                    clear c26
                    have hrt_ := Aside0.mk (Option.some.inj H)
                    clear H
                    try go_wp2_with (first | ((with_reducible refine gate_callee (f := 16) rfl ?_); refine goesL_ (some 35) rfl rfl Try.func16 (by kernel_rfl) rfl #[.agg #[.int .i64 0, .int .i64 0, .int .i64 0, .int .i64 0], .int .i64 3] rfl (by (try simp only [List.map_toArray, List.map_cons, List.map_nil]); first | done | rfl | (simp only [List.length_drop, List.length_take]; rfl)) ?_; (with_reducible refine (impl_AggAdd.calls 0 0 0 0 3 t172 t173 t174 t175 _ A19.out).mono ?_); rintro e w27 ⟨rfl, hb⟩; refine ⟨_, rfl, ?_⟩; have n0_ := Aside0.mk (blk_below (g := gb168) (o := .cells #[.int .i64 t163, .int .i64 t164, .int .i64 t165, .int .i64 t166] 24 (0, 0)) (by (with_reducible repeat (first | refine blk_drewN ?_ _ | refine blk_drew ?_ | refine blk_alloc ?_ _)); exact BK168.out) hb); have n1_ := Aside0.mk (below_step (by repeat (first | (with_reducible first | exact HB.out | apply below_alloc | apply pw_below_drewN | apply below_drew1 | refine below_set ?_ GE168.out) | exact HB.out)) hb); clear BK168; clear HB; have BK168 := n0_; have HB := n1_; clear n0_ n1_; (try clear hb); (try clear hb2); (try clear hk); (try clear hi)) | ((with_reducible refine gate_callee (f := 16) rfl ?_); refine goesL_ (some 36) rfl rfl Try.func16 (by kernel_rfl) rfl #[.agg #[.int .i64 t172, .int .i64 t173, .int .i64 t174, .int .i64 t175], .int .i64 (-4)] rfl (by (try simp only [List.map_toArray, List.map_cons, List.map_nil]); first | done | rfl | (simp only [List.length_drop, List.length_take]; rfl)) ?_; (with_reducible refine (impl_AggAdd.calls t172 t173 t174 t175 (-4) t176 t177 t178 t179 _ A20.out).mono ?_); rintro e w28 ⟨rfl, hb⟩; refine ⟨_, rfl, ?_⟩; have n0_ := Aside0.mk (blk_below (g := gb168) (o := .cells #[.int .i64 t163, .int .i64 t164, .int .i64 t165, .int .i64 t166] 24 (0, 0)) (by (with_reducible repeat (first | refine blk_drewN ?_ _ | refine blk_drew ?_ | refine blk_alloc ?_ _)); exact BK168.out) hb); have n1_ := Aside0.mk (below_step (by repeat (first | (with_reducible first | exact HB.out | apply below_alloc | apply pw_below_drewN | apply below_drew1 | refine below_set ?_ GE168.out) | exact HB.out)) hb); clear BK168; clear HB; have BK168 := n0_; have HB := n1_; clear n0_ n1_; (try clear hb); (try clear hb2); (try clear hk); (try clear hi)) | ((with_reducible refine gate_dst (N := 6) rfl ?_); (try (refine gate_guard (by rfl) ?_; dsimp only)); refine box_event ?hg (N := 6) ?hd (cs := #[.int .i64 0, .int .i64 0, .int .i64 0, .int .i64 0]) (t := 24) ?hr ?_; (case hd => rfl); (case hg => rfl); (case hr => first | (go_simp; done) | (go_simp; rfl)); intro gb180 hg w29 hbox hb; have n0_ := Aside0.mk (blk_below (g := gb168) (o := .cells #[.int .i64 t163, .int .i64 t164, .int .i64 t165, .int .i64 t166] 24 (0, 0)) (by (with_reducible repeat (first | refine blk_drewN ?_ _ | refine blk_drew ?_ | refine blk_alloc ?_ _)); exact BK168.out) hb); have n1_ := Aside0.mk (below_step (by repeat (first | (with_reducible first | exact HB.out | apply below_alloc | apply pw_below_drewN | apply below_drew1 | refine below_set ?_ GE168.out) | exact HB.out)) hb); have n2_ := Aside0.mk (hbox); have n3_ := Aside0.mk ((by rw [hg]; exact (below_size (by repeat (first | (with_reducible first | exact HB.out | apply below_alloc | apply pw_below_drewN | apply below_drew1 | refine below_set ?_ GE168.out) | exact HB.out))) : w.heap.size ≤ gb180)); have n4_ := Aside0.mk ((by rw [hg]; exact (below_size (by repeat (first | (with_reducible first | exact HB.out | apply below_alloc | apply pw_below_drewN | apply below_drew1 | refine below_set ?_ GE168.out) | exact HB.out))) : w.heap.size ≤ gb180)); have n5_ := Aside0.mk ((by rw [hg]; exact Nat.ne_of_lt (blk_lt (g := gb168) (o := .cells #[.int .i64 t163, .int .i64 t164, .int .i64 t165, .int .i64 t166] 24 (0, 0)) (by (with_reducible repeat (first | refine blk_drewN ?_ _ | refine blk_drew ?_ | refine blk_alloc ?_ _)); exact BK168.out)) : gb168 ≠ gb180)); have n6_ := Aside0.mk ((by rw [hg]; exact Nat.ne_of_gt (blk_lt (g := gb168) (o := .cells #[.int .i64 t163, .int .i64 t164, .int .i64 t165, .int .i64 t166] 24 (0, 0)) (by (with_reducible repeat (first | refine blk_drewN ?_ _ | refine blk_drew ?_ | refine blk_alloc ?_ _)); exact BK168.out)) : gb180 ≠ gb168)); clear BK168; clear HB; have BK168 := n0_; have HB := n1_; have BK180 := n2_; have GW180 := n3_; have GE180 := n4_; have NB168_180 := n5_; have NB180_168 := n6_; clear n0_ n1_ n2_ n3_ n4_ n5_ n6_; clear hb hbox hg; have hnb30 := NB180_168.out; have hnc30 := NB168_180.out; have hcz31_0 : w29.cell? ⟨gb180, 0, none⟩ = some (.int .i64 0) := (blk_cell BK180.out 0).trans rfl; have hcz31_1 : w29.cell? ⟨gb180, 1, none⟩ = some (.int .i64 0) := (blk_cell BK180.out 1).trans rfl; have hcz31_2 : w29.cell? ⟨gb180, 2, none⟩ = some (.int .i64 0) := (blk_cell BK180.out 2).trans rfl; have hcz31_3 : w29.cell? ⟨gb180, 3, none⟩ = some (.int .i64 0) := (blk_cell BK180.out 3).trans rfl; have hfz31_0 := blk_frozen BK180.out 0; have hfz31_1 := blk_frozen BK180.out 1; have hfz31_2 := blk_frozen BK180.out 2; have hfz31_3 := blk_frozen BK180.out 3))
                    have pi184 : (0 ≤ ((ji21) : Int)) = True := eq_true (of_decide_eq_true (by first | (with_reducible assumption) | assumption))
                    have qi184 : ((ji21) < (y181.length : Int)) = True := eq_true (of_decide_eq_true (by first | (with_reducible assumption) | assumption))
                    have pi189 : (0 ≤ ((ji21) : Int)) = True := eq_true (of_decide_eq_true (by first | (with_reducible assumption) | assumption))
                    have qi189 : ((ji21) < (y186.length : Int)) = True := eq_true (of_decide_eq_true (by first | (with_reducible assumption) | assumption))
                    have n0_ : Aside0 (((((w29.setCell ⟨gb180, 0, none⟩ (.int .i64 t176)).setCell ⟨gb180, 1, none⟩ (.int .i64 t177)).setCell ⟨gb180, 2, none⟩ (.int .i64 t178)).setCell ⟨gb180, 3, none⟩ (.int .i64 t179)).heap[gb168]? = some (.cells #[.int .i64 t163, .int .i64 t164, .int .i64 t165, .int .i64 t166] 24 (0, 0))) := ⟨by (with_reducible repeat (first | refine blk_drewN ?_ _ | refine blk_drew ?_ | refine blk_alloc ?_ _)); refine blk_far ?_ NB168_180.out _; (with_reducible repeat (first | refine blk_drewN ?_ _ | refine blk_drew ?_ | refine blk_alloc ?_ _)); refine blk_far ?_ NB168_180.out _; (with_reducible repeat (first | refine blk_drewN ?_ _ | refine blk_drew ?_ | refine blk_alloc ?_ _)); refine blk_far ?_ NB168_180.out _; (with_reducible repeat (first | refine blk_drewN ?_ _ | refine blk_drew ?_ | refine blk_alloc ?_ _)); refine blk_far ?_ NB168_180.out _; (with_reducible repeat (first | refine blk_drewN ?_ _ | refine blk_drew ?_ | refine blk_alloc ?_ _)); exact BK168.out⟩
                    have n1_ : Aside0 (((((w29.setCell ⟨gb180, 0, none⟩ (.int .i64 t176)).setCell ⟨gb180, 1, none⟩ (.int .i64 t177)).setCell ⟨gb180, 2, none⟩ (.int .i64 t178)).setCell ⟨gb180, 3, none⟩ (.int .i64 t179)).heap[gb180]? = some (.cells #[.int .i64 t176, .int .i64 t177, .int .i64 t178, .int .i64 t179] 24 (0, 0))) := ⟨by (with_reducible repeat (first | refine blk_drewN ?_ _ | refine blk_drew ?_ | refine blk_alloc ?_ _)); refine blk_put (cs := #[.int .i64 t176, .int .i64 t177, .int .i64 t178, .int .i64 0]) ?_ 3 _ rfl; (with_reducible repeat (first | refine blk_drewN ?_ _ | refine blk_drew ?_ | refine blk_alloc ?_ _)); refine blk_put (cs := #[.int .i64 t176, .int .i64 t177, .int .i64 0, .int .i64 0]) ?_ 2 _ rfl; (with_reducible repeat (first | refine blk_drewN ?_ _ | refine blk_drew ?_ | refine blk_alloc ?_ _)); refine blk_put (cs := #[.int .i64 t176, .int .i64 0, .int .i64 0, .int .i64 0]) ?_ 1 _ rfl; (with_reducible repeat (first | refine blk_drewN ?_ _ | refine blk_drew ?_ | refine blk_alloc ?_ _)); refine blk_put (cs := #[.int .i64 0, .int .i64 0, .int .i64 0, .int .i64 0]) ?_ 0 _ rfl; (with_reducible repeat (first | refine blk_drewN ?_ _ | refine blk_drew ?_ | refine blk_alloc ?_ _)); exact BK180.out⟩
                    have n2_ : Aside0 (Below w.heap.size w ((((w29.setCell ⟨gb180, 0, none⟩ (.int .i64 t176)).setCell ⟨gb180, 1, none⟩ (.int .i64 t177)).setCell ⟨gb180, 2, none⟩ (.int .i64 t178)).setCell ⟨gb180, 3, none⟩ (.int .i64 t179))) := ⟨by repeat (first | (with_reducible first | exact HB.out | apply below_alloc | apply pw_below_drewN | apply below_drew1 | refine below_set ?_ GE168.out | refine below_set ?_ GE180.out) | exact HB.out)⟩
                    (try clear BK168)
                    (try clear BK180)
                    (try clear HB)
                    generalize ((((w29.setCell ⟨gb180, 0, none⟩ (.int .i64 t176)).setCell ⟨gb180, 1, none⟩ (.int .i64 t177)).setCell ⟨gb180, 2, none⟩ (.int .i64 t178)).setCell ⟨gb180, 3, none⟩ (.int .i64 t179)) = w32 at n0_ n1_ n2_ ⊢
                    have BK168 := n0_
                    have BK180 := n1_
                    have HB := n2_
                    clear n0_ n1_ n2_
                    have n0_ := Aside0.mk (blk_drew BK168.out)
                    have n1_ := Aside0.mk (blk_drew BK180.out)
                    have n2_ := Aside0.mk (below_drew1 HB.out)
                    clear BK168
                    clear BK180
                    clear HB
                    have BK168 := n0_
                    have BK180 := n1_
                    have HB := n2_
                    clear n0_ n1_ n2_
                    refine start_ (n := 27) (S := fun w' => True) (ds := []) #[false, false, false, false, false, false, false, false, false, false, false, false, false, false, false, false, false, false, false, false, false, false, false, false, false, false, false] (by kernel_rfl) rfl rfl trivial (fun hHeld => ?_); refine with_tabW laws_FnAggTell.tab10 laws_FnAggTell.bits10 (fun HT_ HW_ => ?_)
                    generalize w32.drew = w33 at BK168 BK180 HB hHeld ⊢
                    refine pure_ (i := 0) (N := some 37) (v := ?_) (a' := ?_) #[true, false, false, false, false, false, false, false, false, false, false, false, false, false, false, false, false, false, false, false, false, false, false, false, false, false, false] rfl rfl (any_of HT_.out (by kernel_rfl)) (fun _ _ _ h => h) (Or.inl ⟨by rfl, ?_⟩) ?_ ?_
                    rotate_left
                    · intro w'
                      go_simp
                      with_reducible rfl
                    rotate_left
                    · simp only [Act.put, List.setIfInBounds_toArray, List.set_cons_zero, List.set_cons_succ, i64_w, i32_w]
                      rfl
                    refine pure_ (i := 1) (N := some 38) (v := ?_) (a' := ?_) #[true, true, false, false, false, false, false, false, false, false, false, false, false, false, false, false, false, false, false, false, false, false, false, false, false, false, false] rfl rfl (any_of HT_.out (by kernel_rfl)) (fun _ _ _ h => h) (Or.inl ⟨by rfl, ?_⟩) ?_ ?_
                    rotate_left
                    · intro w'
                      go_simp
                      with_reducible rfl
                    rotate_left
                    · simp only [Act.put, List.setIfInBounds_toArray, List.set_cons_zero, List.set_cons_succ, i64_w, i32_w]
                      rfl
                    refine pure_ (i := 3) (N := some 40) (v := ?_) (a' := ?_) #[true, true, false, true, false, false, false, false, false, false, false, false, false, false, false, false, false, false, false, false, false, false, false, false, false, false, false] rfl rfl (any_of HT_.out (by kernel_rfl)) (fun _ _ _ h => h) (Or.inl ⟨by rfl, ?_⟩) ?_ ?_
                    rotate_left
                    · intro w'
                      go_simp
                      with_reducible rfl
                    rotate_left
                    · simp only [Act.put, List.setIfInBounds_toArray, List.set_cons_zero, List.set_cons_succ, i64_w, i32_w]
                      rfl
                    refine pure_ (i := 5) (N := some 42) (v := ?_) (a' := ?_) #[true, true, false, true, false, true, false, false, false, false, false, false, false, false, false, false, false, false, false, false, false, false, false, false, false, false, false] rfl rfl (any_of HT_.out (by kernel_rfl)) (fun _ _ _ h => h) (Or.inl ⟨by rfl, ?_⟩) ?_ ?_
                    rotate_left
                    · intro w'
                      go_simp
                      with_reducible rfl
                    rotate_left
                    · simp only [Act.put, List.setIfInBounds_toArray, List.set_cons_zero, List.set_cons_succ, i64_w, i32_w]
                      rfl
                    refine pure_ (i := 7) (N := some 44) (v := ?_) (a' := ?_) #[true, true, false, true, false, true, false, true, false, false, false, false, false, false, false, false, false, false, false, false, false, false, false, false, false, false, false] rfl rfl (any_of HT_.out (by kernel_rfl)) (fun _ _ _ h => h) (Or.inl ⟨by rfl, ?_⟩) ?_ ?_
                    rotate_left
                    · intro w'
                      go_simp
                      with_reducible rfl
                    rotate_left
                    · simp only [Act.put, List.setIfInBounds_toArray, List.set_cons_zero, List.set_cons_succ, i64_w, i32_w]
                      rfl
                    refine pure_ (i := 10) (N := some 47) (v := ?_) (a' := ?_) #[true, true, false, true, false, true, false, true, false, false, true, false, false, false, false, false, false, false, false, false, false, false, false, false, false, false, false] rfl rfl (any_of HT_.out (by kernel_rfl)) (fun _ _ _ h => h) (Or.inl ⟨by rfl, ?_⟩) ?_ ?_
                    rotate_left
                    · intro w'
                      go_simp
                      with_reducible rfl
                    rotate_left
                    · simp only [Act.put, List.setIfInBounds_toArray, List.set_cons_zero, List.set_cons_succ, i64_w, i32_w]
                      rfl
                    refine inv_at [2, 4, 6, 8, 9, 11, 12, 13, 14, 15, 16, 17, 18, 19, 20, 21, 22, 23, 24, 25, 26] (fun a0_ b a w' => ∃ (v182 : Value) (adz_v182 : Addr) (v187 : Value) (adz_v187 : Addr) (m12_ : Value) (m22_ : Value), a = putSel a0_ b [(2, 39, .int .i64 t163), (4, 41, .int .i64 t164), (6, 43, .int .i64 t165), (8, 45, .int .i64 t166), (9, 46, v182), (11, 48, .int .i64 ji21), (12, 49, m12_), (13, 50, .int .i64 (rd y181 (ji21))), (14, 51, .bool (t169 == (rd y181 (ji21)))), (15, 52, .bool (t169 == (rd y181 (ji21)))), (16, 53, .agg #[.int .i64 t176, .int .i64 t177, .int .i64 t178, .int .i64 t179]), (17, 54, .int .i64 t167), (18, 55, .int .i64 t185), (19, 56, v187), (20, 57, .int .i64 t167), (21, 58, .int .i64 ji21), (22, 59, m22_), (23, 60, .int .i64 (rd y186 (ji21))), (24, 61, .bool (t185 == (rd y186 (ji21)))), (25, 62, .bool (t185 == (rd y186 (ji21)))), (26, 2, .bool (t185 == (rd y186 (ji21))))] ∧ (w'.heap[gb168]? = some (.cells #[.int .i64 t163, .int .i64 t164, .int .i64 t165, .int .i64 t166] 24 (0, 0))) ∧ (w'.heap[gb180]? = some (.cells #[.int .i64 t176, .int .i64 t177, .int .i64 t178, .int .i64 t179] 24 (0, 0))) ∧ (Below w.heap.size w w') ∧ (b 9 = true → Kd.R (Kd.int .i64) 3 w' w.heap.size (fun _ => True) v182 y181) ∧ (b 9 = true → ∃ c_, (v182 : Value) = .slice (some adz_v182) y181.length c_) ∧ (b 19 = true → Kd.R (Kd.int .i64) 3 w' w.heap.size (fun _ => True) v187 y186) ∧ (b 19 = true → ∃ c_, (v187 : Value) = .slice (some adz_v187) y186.length c_) ∧ (b 12 = true → (m12_ : Value) = .pointer (some (adz_v182.add ((ji21)).toNat))) ∧ (b 22 = true → (m22_ : Value) = .pointer (some (adz_v187.add ((ji21)).toNat)))) HT_.out HW_.out (by kernel_rfl) (by kernel_rfl) ?_ ?_ ?_
                    · exact ⟨.bool false, ⟨0, 0, none⟩, .bool false, ⟨0, 0, none⟩, .bool false, .bool false, by simp only [putSel, Bool.false_eq_true, if_false], BK168.out, BK180.out, HB.out, fun h_ => absurd h_ (by decide), fun h_ => absurd h_ (by decide), fun h_ => absurd h_ (by decide), fun h_ => absurd h_ (by decide), fun h_ => absurd h_ (by decide), fun h_ => absurd h_ (by decide)⟩
                    · skip
                      clear BK168 BK180 HB
                      refine steps_cons ?_ ?_
                      · rintro b a w' ⟨v182, adz_v182, v187, adz_v187, m12_, m22_, ha, Q_BK168, Q_BK180, Q_HB, Q_HO183, Q_HA_HO183, Q_HO188, Q_HA_HO188, Q_X12_, Q_X22_⟩ hb_ hon hoff
                        refine ⟨_, rfl, fun K hK => ?_⟩
                        have e38 : a.tmps[38]? = some (.pointer (some ⟨gb168, 0, none⟩)) := by rw [ha]; exact (putSel_off rfl).trans rfl
                        replace ha := Aside0.mk ha
                        have BK168 := Aside0.mk Q_BK168
                        have BK180 := Aside0.mk Q_BK180
                        have HB := Aside0.mk Q_HB
                        have hc0_ : w'.cell? ⟨gb168, 0, none⟩ = some (.int .i64 t163) := (blk_cell BK168.out 0).trans rfl
                        have hc1_ : w'.cell? ⟨gb168, 1, none⟩ = some (.int .i64 t164) := (blk_cell BK168.out 1).trans rfl
                        have hc2_ : w'.cell? ⟨gb168, 2, none⟩ = some (.int .i64 t165) := (blk_cell BK168.out 2).trans rfl
                        have hc3_ : w'.cell? ⟨gb168, 3, none⟩ = some (.int .i64 t166) := (blk_cell BK168.out 3).trans rfl
                        refine value_ (w1 := w') (v := .int .i64 t163) (by rfl) rfl ?_ ?_
                        · go_simp
                          (try simp only [i64_w])
                          try rfl
                        refine hK.out _ _ ⟨v182, adz_v182, v187, adz_v187, m12_, m22_, (by rw [ha.out]; exact putSel_upk 0 hb_ rfl rfl rfl), Q_BK168, Q_BK180, Q_HB, fun h0_ => absurd ((hoff 9 (by kernel_rfl)).symm.trans h0_) (by decide), fun h0_ => absurd ((hoff 9 (by kernel_rfl)).symm.trans h0_) (by decide), fun h0_ => absurd ((hoff 19 (by kernel_rfl)).symm.trans h0_) (by decide), fun h0_ => absurd ((hoff 19 (by kernel_rfl)).symm.trans h0_) (by decide), fun h0_ => absurd ((hoff 12 (by kernel_rfl)).symm.trans h0_) (by decide), fun h0_ => absurd ((hoff 22 (by kernel_rfl)).symm.trans h0_) (by decide)⟩
                      refine steps_cons ?_ ?_
                      · rintro b a w' ⟨v182, adz_v182, v187, adz_v187, m12_, m22_, ha, Q_BK168, Q_BK180, Q_HB, Q_HO183, Q_HA_HO183, Q_HO188, Q_HA_HO188, Q_X12_, Q_X22_⟩ hb_ hon hoff
                        refine ⟨_, rfl, fun K hK => ?_⟩
                        have e40 : a.tmps[40]? = some (.pointer (some ⟨gb168, 1, none⟩)) := by rw [ha]; exact (putSel_off rfl).trans rfl
                        replace ha := Aside0.mk ha
                        have BK168 := Aside0.mk Q_BK168
                        have BK180 := Aside0.mk Q_BK180
                        have HB := Aside0.mk Q_HB
                        have hc0_ : w'.cell? ⟨gb168, 0, none⟩ = some (.int .i64 t163) := (blk_cell BK168.out 0).trans rfl
                        have hc1_ : w'.cell? ⟨gb168, 1, none⟩ = some (.int .i64 t164) := (blk_cell BK168.out 1).trans rfl
                        have hc2_ : w'.cell? ⟨gb168, 2, none⟩ = some (.int .i64 t165) := (blk_cell BK168.out 2).trans rfl
                        have hc3_ : w'.cell? ⟨gb168, 3, none⟩ = some (.int .i64 t166) := (blk_cell BK168.out 3).trans rfl
                        refine value_ (w1 := w') (v := .int .i64 t164) (by rfl) rfl ?_ ?_
                        · go_simp
                          (try simp only [i64_w])
                          try rfl
                        refine hK.out _ _ ⟨v182, adz_v182, v187, adz_v187, m12_, m22_, (by rw [ha.out]; exact putSel_upk 1 hb_ rfl rfl rfl), Q_BK168, Q_BK180, Q_HB, fun h0_ => absurd ((hoff 9 (by kernel_rfl)).symm.trans h0_) (by decide), fun h0_ => absurd ((hoff 9 (by kernel_rfl)).symm.trans h0_) (by decide), fun h0_ => absurd ((hoff 19 (by kernel_rfl)).symm.trans h0_) (by decide), fun h0_ => absurd ((hoff 19 (by kernel_rfl)).symm.trans h0_) (by decide), fun h0_ => absurd ((hoff 12 (by kernel_rfl)).symm.trans h0_) (by decide), fun h0_ => absurd ((hoff 22 (by kernel_rfl)).symm.trans h0_) (by decide)⟩
                      refine steps_cons ?_ ?_
                      · rintro b a w' ⟨v182, adz_v182, v187, adz_v187, m12_, m22_, ha, Q_BK168, Q_BK180, Q_HB, Q_HO183, Q_HA_HO183, Q_HO188, Q_HA_HO188, Q_X12_, Q_X22_⟩ hb_ hon hoff
                        refine ⟨_, rfl, fun K hK => ?_⟩
                        have e42 : a.tmps[42]? = some (.pointer (some ⟨gb168, 2, none⟩)) := by rw [ha]; exact (putSel_off rfl).trans rfl
                        replace ha := Aside0.mk ha
                        have BK168 := Aside0.mk Q_BK168
                        have BK180 := Aside0.mk Q_BK180
                        have HB := Aside0.mk Q_HB
                        have hc0_ : w'.cell? ⟨gb168, 0, none⟩ = some (.int .i64 t163) := (blk_cell BK168.out 0).trans rfl
                        have hc1_ : w'.cell? ⟨gb168, 1, none⟩ = some (.int .i64 t164) := (blk_cell BK168.out 1).trans rfl
                        have hc2_ : w'.cell? ⟨gb168, 2, none⟩ = some (.int .i64 t165) := (blk_cell BK168.out 2).trans rfl
                        have hc3_ : w'.cell? ⟨gb168, 3, none⟩ = some (.int .i64 t166) := (blk_cell BK168.out 3).trans rfl
                        refine value_ (w1 := w') (v := .int .i64 t165) (by rfl) rfl ?_ ?_
                        · go_simp
                          (try simp only [i64_w])
                          try rfl
                        refine hK.out _ _ ⟨v182, adz_v182, v187, adz_v187, m12_, m22_, (by rw [ha.out]; exact putSel_upk 2 hb_ rfl rfl rfl), Q_BK168, Q_BK180, Q_HB, fun h0_ => absurd ((hoff 9 (by kernel_rfl)).symm.trans h0_) (by decide), fun h0_ => absurd ((hoff 9 (by kernel_rfl)).symm.trans h0_) (by decide), fun h0_ => absurd ((hoff 19 (by kernel_rfl)).symm.trans h0_) (by decide), fun h0_ => absurd ((hoff 19 (by kernel_rfl)).symm.trans h0_) (by decide), fun h0_ => absurd ((hoff 12 (by kernel_rfl)).symm.trans h0_) (by decide), fun h0_ => absurd ((hoff 22 (by kernel_rfl)).symm.trans h0_) (by decide)⟩
                      refine steps_cons ?_ ?_
                      · rintro b a w' ⟨v182, adz_v182, v187, adz_v187, m12_, m22_, ha, Q_BK168, Q_BK180, Q_HB, Q_HO183, Q_HA_HO183, Q_HO188, Q_HA_HO188, Q_X12_, Q_X22_⟩ hb_ hon hoff
                        refine ⟨_, rfl, fun K hK => ?_⟩
                        have e44 : a.tmps[44]? = some (.pointer (some ⟨gb168, 3, none⟩)) := by rw [ha]; exact (putSel_off rfl).trans rfl
                        replace ha := Aside0.mk ha
                        have BK168 := Aside0.mk Q_BK168
                        have BK180 := Aside0.mk Q_BK180
                        have HB := Aside0.mk Q_HB
                        have hc0_ : w'.cell? ⟨gb168, 0, none⟩ = some (.int .i64 t163) := (blk_cell BK168.out 0).trans rfl
                        have hc1_ : w'.cell? ⟨gb168, 1, none⟩ = some (.int .i64 t164) := (blk_cell BK168.out 1).trans rfl
                        have hc2_ : w'.cell? ⟨gb168, 2, none⟩ = some (.int .i64 t165) := (blk_cell BK168.out 2).trans rfl
                        have hc3_ : w'.cell? ⟨gb168, 3, none⟩ = some (.int .i64 t166) := (blk_cell BK168.out 3).trans rfl
                        refine value_ (w1 := w') (v := .int .i64 t166) (by rfl) rfl ?_ ?_
                        · go_simp
                          (try simp only [i64_w])
                          try rfl
                        refine hK.out _ _ ⟨v182, adz_v182, v187, adz_v187, m12_, m22_, (by rw [ha.out]; exact putSel_upk 3 hb_ rfl rfl rfl), Q_BK168, Q_BK180, Q_HB, fun h0_ => absurd ((hoff 9 (by kernel_rfl)).symm.trans h0_) (by decide), fun h0_ => absurd ((hoff 9 (by kernel_rfl)).symm.trans h0_) (by decide), fun h0_ => absurd ((hoff 19 (by kernel_rfl)).symm.trans h0_) (by decide), fun h0_ => absurd ((hoff 19 (by kernel_rfl)).symm.trans h0_) (by decide), fun h0_ => absurd ((hoff 12 (by kernel_rfl)).symm.trans h0_) (by decide), fun h0_ => absurd ((hoff 22 (by kernel_rfl)).symm.trans h0_) (by decide)⟩
                      refine steps_cons ?_ ?_
                      · rintro b a w' ⟨v182, adz_v182, v187, adz_v187, m12_, m22_, ha, Q_BK168, Q_BK180, Q_HB, Q_HO183, Q_HA_HO183, Q_HO188, Q_HA_HO188, Q_X12_, Q_X22_⟩ hb_ hon hoff
                        refine ⟨_, rfl, fun K hK => ?_⟩
                        have e39 : a.tmps[39]? = some (.int .i64 t163) := by rw [ha]; exact putSel_on (e := (2, 39, .int .i64 t163)) 0 rfl rfl (hon 2 (by kernel_rfl)) rfl
                        have e41 : a.tmps[41]? = some (.int .i64 t164) := by rw [ha]; exact putSel_on (e := (4, 41, .int .i64 t164)) 1 rfl rfl (hon 4 (by kernel_rfl)) rfl
                        have e43 : a.tmps[43]? = some (.int .i64 t165) := by rw [ha]; exact putSel_on (e := (6, 43, .int .i64 t165)) 2 rfl rfl (hon 6 (by kernel_rfl)) rfl
                        have e45 : a.tmps[45]? = some (.int .i64 t166) := by rw [ha]; exact putSel_on (e := (8, 45, .int .i64 t166)) 3 rfl rfl (hon 8 (by kernel_rfl)) rfl
                        replace ha := Aside0.mk ha
                        have BK168 := Aside0.mk Q_BK168
                        have BK180 := Aside0.mk Q_BK180
                        have HB := Aside0.mk Q_HB
                        refine Kd.R_lit_step (Kd.int .i64) _ 3 ?hg (N := 46) ?hd (xs := ([t163, t164, t165, t166] : List Int)) (inner := [.int .i64 t163, .int .i64 t164, .int .i64 t165, .int .i64 t166]) (ok := fun _ => True) (okp := fun _ => True) ?hr ?hp (fun _ hk => hk) trivial (Below.refl _ _) (Nat.le_refl _) (by simp) ?_; (case hd => rfl); (case hg => rfl); (case hr => first | (go_simp; done) | (go_simp; rfl)); (case hp => exact (Reps.one (show Kd.M (Kd.int .i64) _ _ _ t163 [.int .i64 t163] from rfl) (Reps.one (show Kd.M (Kd.int .i64) _ _ _ t164 [.int .i64 t164] from rfl) (Reps.one (show Kd.M (Kd.int .i64) _ _ _ t165 [.int .i64 t165] from rfl) (Reps.one (show Kd.M (Kd.int .i64) _ _ _ t166 [.int .i64 t166] from rfl) (Reps.none _ _))))))
                        intro v182 w34 ho35 hb hg_ hnew_
                        clear hg_ hnew_
                        (first | rw [← Ny181.out] at ho35 | (simp only [Int.reduceToNat] at ho35; rw [← Ny181.out] at ho35))
                        have n0_ := Aside0.mk (Kd.R_lower ho35 (below_size (by repeat (first | (with_reducible first | exact HB.out | apply below_alloc | apply pw_below_drewN | apply below_drew1 | refine below_set ?_ GE168.out | refine below_set ?_ GE180.out) | exact HB.out))))
                        have n1_ := Aside0.mk (blk_below (g := gb168) (o := .cells #[.int .i64 t163, .int .i64 t164, .int .i64 t165, .int .i64 t166] 24 (0, 0)) (by (with_reducible repeat (first | refine blk_drewN ?_ _ | refine blk_drew ?_ | refine blk_alloc ?_ _)); exact BK168.out) hb)
                        have n2_ := Aside0.mk (blk_below (g := gb180) (o := .cells #[.int .i64 t176, .int .i64 t177, .int .i64 t178, .int .i64 t179] 24 (0, 0)) (by (with_reducible repeat (first | refine blk_drewN ?_ _ | refine blk_drew ?_ | refine blk_alloc ?_ _)); exact BK180.out) hb)
                        have n3_ := Aside0.mk (below_step (by repeat (first | (with_reducible first | exact HB.out | apply below_alloc | apply pw_below_drewN | apply below_drew1 | refine below_set ?_ GE168.out | refine below_set ?_ GE180.out) | exact HB.out)) hb)
                        clear BK168
                        clear BK180
                        clear HB
                        have HO183 := n0_
                        have BK168 := n1_
                        have BK180 := n2_
                        have HB := n3_
                        clear n0_ n1_ n2_ n3_
                        clear hb ho35
                        obtain ⟨Ao36, co36, eo36⟩ := Kd.R_slice HO183.out
                        subst eo36
                        obtain ⟨ado36, fo36, _⟩ := Kd.at_int (Kd.R_reads' HO183.out).2.2 0 (by decide) (by rw [Ny181.out]; simp)
                        cases fo36
                        refine hK.out _ _ ⟨.slice (some ado36) y181.length co36, ado36, v187, adz_v187, m12_, m22_, (by rw [ha.out]; exact putSel_upk 4 hb_ rfl rfl rfl), (by (with_reducible repeat (first | refine blk_drewN ?_ _ | refine blk_drew ?_ | refine blk_alloc ?_ _)); exact BK168.out), (by (with_reducible repeat (first | refine blk_drewN ?_ _ | refine blk_drew ?_ | refine blk_alloc ?_ _)); exact BK180.out), (by repeat (first | (with_reducible first | exact HB.out | apply below_alloc | apply pw_below_drewN | apply below_drew1 | refine below_set ?_ GE168.out | refine below_set ?_ GE180.out) | exact HB.out)), fun _ => (by (with_reducible repeat (first | apply Kd.R_alloc | apply Kd.R_drewN | apply Kd.R_drew)); exact HO183.out), fun _ => ⟨_, rfl⟩, fun h0_ => absurd ((hoff 19 (by kernel_rfl)).symm.trans h0_) (by decide), fun h0_ => absurd ((hoff 19 (by kernel_rfl)).symm.trans h0_) (by decide), fun h0_ => absurd ((hoff 12 (by kernel_rfl)).symm.trans h0_) (by decide), fun h0_ => absurd ((hoff 22 (by kernel_rfl)).symm.trans h0_) (by decide)⟩
                      refine steps_cons ?_ ?_
                      · rintro b a w' ⟨v182, adz_v182, v187, adz_v187, m12_, m22_, ha, Q_BK168, Q_BK180, Q_HB, Q_HO183, Q_HA_HO183, Q_HO188, Q_HA_HO188, Q_X12_, Q_X22_⟩ hb_ hon hoff
                        refine ⟨_, rfl, fun K hK => ?_⟩
                        have e47 : a.tmps[47]? = some (.int .i64 t167) := by rw [ha]; exact (putSel_off rfl).trans rfl
                        replace ha := Aside0.mk ha
                        have BK168 := Aside0.mk Q_BK168
                        have BK180 := Aside0.mk Q_BK180
                        have HB := Aside0.mk Q_HB
                        refine value_ (w1 := w') (v := .int .i64 ji21) (by rfl) rfl ?_ ?_
                        · go_simp
                          (try simp only [i64_w])
                          try rfl
                        refine hK.out _ _ ⟨v182, adz_v182, v187, adz_v187, m12_, m22_, (by rw [ha.out]; exact putSel_upk 5 hb_ rfl rfl rfl), Q_BK168, Q_BK180, Q_HB, Q_HO183, Q_HA_HO183, fun h0_ => absurd ((hoff 19 (by kernel_rfl)).symm.trans h0_) (by decide), fun h0_ => absurd ((hoff 19 (by kernel_rfl)).symm.trans h0_) (by decide), fun h0_ => absurd ((hoff 12 (by kernel_rfl)).symm.trans h0_) (by decide), fun h0_ => absurd ((hoff 22 (by kernel_rfl)).symm.trans h0_) (by decide)⟩
                      refine steps_cons ?_ ?_
                      · rintro b a w' ⟨v182, adz_v182, v187, adz_v187, m12_, m22_, ha, Q_BK168, Q_BK180, Q_HB, Q_HO183, Q_HA_HO183, Q_HO188, Q_HA_HO188, Q_X12_, Q_X22_⟩ hb_ hon hoff
                        refine ⟨_, rfl, fun K hK => ?_⟩
                        have e46 : a.tmps[46]? = some (v182) := by rw [ha]; exact putSel_on (e := (9, 46, v182)) 4 rfl rfl (hon 9 (by kernel_rfl)) rfl
                        have e48 : a.tmps[48]? = some (.int .i64 ji21) := by rw [ha]; exact putSel_on (e := (11, 48, .int .i64 ji21)) 5 rfl rfl (hon 11 (by kernel_rfl)) rfl
                        replace ha := Aside0.mk ha
                        have BK168 := Aside0.mk Q_BK168
                        have BK180 := Aside0.mk Q_BK180
                        have HB := Aside0.mk Q_HB
                        have HO183 := Aside0.mk (Q_HO183 (hon 9 (by kernel_rfl)))
                        have HA_HO183 := Aside0.mk (Q_HA_HO183 (hon 9 (by kernel_rfl)))
                        obtain ⟨c_, hv_⟩ := HA_HO183.out
                        rw [hv_] at e46
                        refine value_ (w1 := w') (v := .pointer (some (adz_v182.add ((ji21)).toNat))) (by rfl) rfl ?_ ?_
                        · go_simp
                          (try simp only [i64_w])
                          try rfl
                        refine hK.out _ _ ⟨v182, adz_v182, v187, adz_v187, (.pointer (some (adz_v182.add ((ji21)).toNat))), m22_, (by rw [ha.out]; exact putSel_upk 6 hb_ rfl rfl rfl), Q_BK168, Q_BK180, Q_HB, Q_HO183, Q_HA_HO183, fun h0_ => absurd ((hoff 19 (by kernel_rfl)).symm.trans h0_) (by decide), fun h0_ => absurd ((hoff 19 (by kernel_rfl)).symm.trans h0_) (by decide), fun _ => rfl, fun h0_ => absurd ((hoff 22 (by kernel_rfl)).symm.trans h0_) (by decide)⟩
                      refine steps_cons ?_ ?_
                      · rintro b a w' ⟨v182, adz_v182, v187, adz_v187, m12_, m22_, ha, Q_BK168, Q_BK180, Q_HB, Q_HO183, Q_HA_HO183, Q_HO188, Q_HA_HO188, Q_X12_, Q_X22_⟩ hb_ hon hoff
                        refine ⟨_, rfl, fun K hK => ?_⟩
                        have e49 : a.tmps[49]? = some (m12_) := by rw [ha]; exact putSel_on (e := (12, 49, m12_)) 6 rfl rfl (hon 12 (by kernel_rfl)) rfl
                        rw [Q_X12_ (hon 12 (by kernel_rfl))] at e49
                        replace ha := Aside0.mk ha
                        have BK168 := Aside0.mk Q_BK168
                        have BK180 := Aside0.mk Q_BK180
                        have HB := Aside0.mk Q_HB
                        have HO183 := Aside0.mk (Q_HO183 (hon 9 (by kernel_rfl)))
                        have HA_HO183 := Aside0.mk (Q_HA_HO183 (hon 9 (by kernel_rfl)))
                        obtain ⟨c_, hv_⟩ := HA_HO183.out
                        have hF_ := HO183.out
                        rw [hv_] at hF_
                        obtain ⟨ad_, ea_, hx_⟩ := Kd.at_int (Kd.R_reads' hF_).2.2 (ji21) (of_eq_true pi184) (of_eq_true qi184)
                        cases ea_
                        refine value_ (w1 := w') (v := .int .i64 (rd y181 (ji21))) (by rfl) rfl ?_ ?_
                        · go_simp
                          (try simp only [i64_w])
                          try rfl
                        refine hK.out _ _ ⟨v182, adz_v182, v187, adz_v187, m12_, m22_, (by rw [ha.out]; exact putSel_upk 7 hb_ rfl rfl rfl), Q_BK168, Q_BK180, Q_HB, Q_HO183, Q_HA_HO183, fun h0_ => absurd ((hoff 19 (by kernel_rfl)).symm.trans h0_) (by decide), fun h0_ => absurd ((hoff 19 (by kernel_rfl)).symm.trans h0_) (by decide), Q_X12_, fun h0_ => absurd ((hoff 22 (by kernel_rfl)).symm.trans h0_) (by decide)⟩
                      refine steps_cons ?_ ?_
                      · rintro b a w' ⟨v182, adz_v182, v187, adz_v187, m12_, m22_, ha, Q_BK168, Q_BK180, Q_HB, Q_HO183, Q_HA_HO183, Q_HO188, Q_HA_HO188, Q_X12_, Q_X22_⟩ hb_ hon hoff
                        refine ⟨_, rfl, fun K hK => ?_⟩
                        have e37 : a.tmps[37]? = some (.int .i64 t169) := by rw [ha]; exact (putSel_off rfl).trans rfl
                        have e50 : a.tmps[50]? = some (.int .i64 (rd y181 (ji21))) := by rw [ha]; exact putSel_on (e := (13, 50, .int .i64 (rd y181 (ji21)))) 7 rfl rfl (hon 13 (by kernel_rfl)) rfl
                        replace ha := Aside0.mk ha
                        have BK168 := Aside0.mk Q_BK168
                        have BK180 := Aside0.mk Q_BK180
                        have HB := Aside0.mk Q_HB
                        have HO183 := Aside0.mk (Q_HO183 (hon 9 (by kernel_rfl)))
                        have HA_HO183 := Aside0.mk (Q_HA_HO183 (hon 9 (by kernel_rfl)))
                        refine value_ (w1 := w') (v := .bool (t169 == (rd y181 (ji21)))) (by rfl) rfl ?_ ?_
                        · go_simp
                          (try simp only [i64_w])
                          try rfl
                        refine hK.out _ _ ⟨v182, adz_v182, v187, adz_v187, m12_, m22_, (by rw [ha.out]; exact putSel_upk 8 hb_ rfl rfl rfl), Q_BK168, Q_BK180, Q_HB, Q_HO183, Q_HA_HO183, fun h0_ => absurd ((hoff 19 (by kernel_rfl)).symm.trans h0_) (by decide), fun h0_ => absurd ((hoff 19 (by kernel_rfl)).symm.trans h0_) (by decide), Q_X12_, fun h0_ => absurd ((hoff 22 (by kernel_rfl)).symm.trans h0_) (by decide)⟩
                      refine steps_cons ?_ ?_
                      · rintro b a w' ⟨v182, adz_v182, v187, adz_v187, m12_, m22_, ha, Q_BK168, Q_BK180, Q_HB, Q_HO183, Q_HA_HO183, Q_HO188, Q_HA_HO188, Q_X12_, Q_X22_⟩ hb_ hon hoff
                        refine ⟨_, rfl, fun K hK => ?_⟩
                        have e51 : a.tmps[51]? = some (.bool (t169 == (rd y181 (ji21)))) := by rw [ha]; exact putSel_on (e := (14, 51, .bool (t169 == (rd y181 (ji21))))) 8 rfl rfl (hon 14 (by kernel_rfl)) rfl
                        replace ha := Aside0.mk ha
                        have BK168 := Aside0.mk Q_BK168
                        have BK180 := Aside0.mk Q_BK180
                        have HB := Aside0.mk Q_HB
                        have HO183 := Aside0.mk (Q_HO183 (hon 9 (by kernel_rfl)))
                        have HA_HO183 := Aside0.mk (Q_HA_HO183 (hon 9 (by kernel_rfl)))
                        refine value_ (w1 := w') (v := .bool (t169 == (rd y181 (ji21)))) (by rfl) rfl ?_ ?_
                        · go_simp
                          (try simp only [i64_w])
                          try rfl
                        refine hK.out _ _ ⟨v182, adz_v182, v187, adz_v187, m12_, m22_, (by rw [ha.out]; exact putSel_upk 9 hb_ rfl rfl rfl), Q_BK168, Q_BK180, Q_HB, Q_HO183, Q_HA_HO183, fun h0_ => absurd ((hoff 19 (by kernel_rfl)).symm.trans h0_) (by decide), fun h0_ => absurd ((hoff 19 (by kernel_rfl)).symm.trans h0_) (by decide), Q_X12_, fun h0_ => absurd ((hoff 22 (by kernel_rfl)).symm.trans h0_) (by decide)⟩
                      refine steps_cons ?_ ?_
                      · rintro b a w' ⟨v182, adz_v182, v187, adz_v187, m12_, m22_, ha, Q_BK168, Q_BK180, Q_HB, Q_HO183, Q_HA_HO183, Q_HO188, Q_HA_HO188, Q_X12_, Q_X22_⟩ hb_ hon hoff
                        refine ⟨_, rfl, fun K hK => ?_⟩
                        have e6 : a.tmps[6]? = some (.pointer (some ⟨gb180, 0, none⟩)) := by rw [ha]; exact (putSel_off rfl).trans rfl
                        have e52 : a.tmps[52]? = some (.bool (t169 == (rd y181 (ji21)))) := by rw [ha]; exact putSel_on (e := (15, 52, .bool (t169 == (rd y181 (ji21))))) 9 rfl rfl (hon 15 (by kernel_rfl)) rfl
                        replace ha := Aside0.mk ha
                        have BK168 := Aside0.mk Q_BK168
                        have BK180 := Aside0.mk Q_BK180
                        have HB := Aside0.mk Q_HB
                        have HO183 := Aside0.mk (Q_HO183 (hon 9 (by kernel_rfl)))
                        have HA_HO183 := Aside0.mk (Q_HA_HO183 (hon 9 (by kernel_rfl)))
                        have hc0_ : w'.cell? ⟨gb180, 0, none⟩ = some (.int .i64 t176) := (blk_cell BK180.out 0).trans rfl
                        have hc1_ : w'.cell? ⟨gb180, 1, none⟩ = some (.int .i64 t177) := (blk_cell BK180.out 1).trans rfl
                        have hc2_ : w'.cell? ⟨gb180, 2, none⟩ = some (.int .i64 t178) := (blk_cell BK180.out 2).trans rfl
                        have hc3_ : w'.cell? ⟨gb180, 3, none⟩ = some (.int .i64 t179) := (blk_cell BK180.out 3).trans rfl
                        refine value_ (w1 := w') (v := .agg #[.int .i64 t176, .int .i64 t177, .int .i64 t178, .int .i64 t179]) (wanted_on rfl rfl rfl (e52.trans (by first | rfl | (simp [*]; done)))) rfl ?_ ?_
                        · go_simp
                          (try simp only [i64_w])
                          try rfl
                        refine hK.out _ _ ⟨v182, adz_v182, v187, adz_v187, m12_, m22_, (by rw [ha.out]; exact putSel_upk 10 hb_ rfl rfl rfl), Q_BK168, Q_BK180, Q_HB, Q_HO183, Q_HA_HO183, Q_HO188, Q_HA_HO188, Q_X12_, Q_X22_⟩
                      refine steps_cons ?_ ?_
                      · rintro b a w' ⟨v182, adz_v182, v187, adz_v187, m12_, m22_, ha, Q_BK168, Q_BK180, Q_HB, Q_HO183, Q_HA_HO183, Q_HO188, Q_HA_HO188, Q_X12_, Q_X22_⟩ hb_ hon hoff
                        refine ⟨_, rfl, fun K hK => ?_⟩
                        have e4 : a.tmps[4]? = some (.int .i64 t167) := by rw [ha]; exact (putSel_off rfl).trans rfl
                        have e52 : a.tmps[52]? = some (.bool (t169 == (rd y181 (ji21)))) := by rw [ha]; exact putSel_on (e := (15, 52, .bool (t169 == (rd y181 (ji21))))) 9 rfl rfl (hon 15 (by kernel_rfl)) rfl
                        replace ha := Aside0.mk ha
                        have BK168 := Aside0.mk Q_BK168
                        have BK180 := Aside0.mk Q_BK180
                        have HB := Aside0.mk Q_HB
                        have HO183 := Aside0.mk (Q_HO183 (hon 9 (by kernel_rfl)))
                        have HA_HO183 := Aside0.mk (Q_HA_HO183 (hon 9 (by kernel_rfl)))
                        refine value_ (w1 := w') (v := .int .i64 t167) (wanted_on rfl rfl rfl (e52.trans (by first | rfl | (simp [*]; done)))) rfl ?_ ?_
                        · go_simp
                          (try simp only [i64_w])
                          try rfl
                        refine hK.out _ _ ⟨v182, adz_v182, v187, adz_v187, m12_, m22_, (by rw [ha.out]; exact putSel_upk 11 hb_ rfl rfl rfl), Q_BK168, Q_BK180, Q_HB, Q_HO183, Q_HA_HO183, Q_HO188, Q_HA_HO188, Q_X12_, Q_X22_⟩
                      refine steps_cons ?_ ?_
                      · rintro b a w' ⟨v182, adz_v182, v187, adz_v187, m12_, m22_, ha, Q_BK168, Q_BK180, Q_HB, Q_HO183, Q_HA_HO183, Q_HO188, Q_HA_HO188, Q_X12_, Q_X22_⟩ hb_ hon hoff
                        refine ⟨_, rfl, fun K hK => ?_⟩
                        have e53 : a.tmps[53]? = some (.agg #[.int .i64 t176, .int .i64 t177, .int .i64 t178, .int .i64 t179]) := by rw [ha]; exact putSel_on (e := (16, 53, .agg #[.int .i64 t176, .int .i64 t177, .int .i64 t178, .int .i64 t179])) 10 rfl rfl (hon 16 (by kernel_rfl)) rfl
                        have e54 : a.tmps[54]? = some (.int .i64 t167) := by rw [ha]; exact putSel_on (e := (17, 54, .int .i64 t167)) 11 rfl rfl (hon 17 (by kernel_rfl)) rfl
                        have e52 : a.tmps[52]? = some (.bool (t169 == (rd y181 (ji21)))) := by rw [ha]; exact putSel_on (e := (15, 52, .bool (t169 == (rd y181 (ji21))))) 9 rfl rfl (hon 15 (by kernel_rfl)) rfl
                        replace ha := Aside0.mk ha
                        have BK168 := Aside0.mk Q_BK168
                        have BK180 := Aside0.mk Q_BK180
                        have HB := Aside0.mk Q_HB
                        have HO183 := Aside0.mk (Q_HO183 (hon 9 (by kernel_rfl)))
                        have HA_HO183 := Aside0.mk (Q_HA_HO183 (hon 9 (by kernel_rfl)))
                        obtain ⟨co38, eo38⟩ := HA_HO183.out
                        clear HA_HO183
                        subst eo38
                        refine goes_ Try.func54 (by kernel_rfl) rfl #[.agg #[.int .i64 t176, .int .i64 t177, .int .i64 t178, .int .i64 t179], .int .i64 t167] (wanted_on rfl rfl rfl (e52.trans (by first | rfl | (simp [*]; done)))) rfl rfl (by first | (simp only [List.map_toArray, List.map_cons, List.map_nil, Act.eval, Array.getD_eq_getD_getElem?, Option.getD_some, e53, e54, e52]; done) | (simp only [List.map_toArray, List.map_cons, List.map_nil, Act.eval, Array.getD_eq_getD_getElem?, Option.getD_some, e53, e54, e52]; rfl)) ?_
                        with_reducible refine (impl_AggTell.calls t176 t177 t178 t179 t167 t185 _ A25.out).mono ?_
                        rintro e w39 ⟨rfl, hb⟩
                        refine ⟨_, rfl, ?_⟩
                        have n0_ := Aside0.mk (Kd.R_below (by (with_reducible repeat (first | apply Kd.R_alloc | apply Kd.R_drewN | apply Kd.R_drew)); exact HO183.out) hb)
                        have n1_ := Aside0.mk (blk_below (g := gb168) (o := .cells #[.int .i64 t163, .int .i64 t164, .int .i64 t165, .int .i64 t166] 24 (0, 0)) (by (with_reducible repeat (first | refine blk_drewN ?_ _ | refine blk_drew ?_ | refine blk_alloc ?_ _)); exact BK168.out) hb)
                        have n2_ := Aside0.mk (blk_below (g := gb180) (o := .cells #[.int .i64 t176, .int .i64 t177, .int .i64 t178, .int .i64 t179] 24 (0, 0)) (by (with_reducible repeat (first | refine blk_drewN ?_ _ | refine blk_drew ?_ | refine blk_alloc ?_ _)); exact BK180.out) hb)
                        have n3_ := Aside0.mk (below_step (by repeat (first | (with_reducible first | exact HB.out | apply below_alloc | apply pw_below_drewN | apply below_drew1 | refine below_set ?_ GE168.out | refine below_set ?_ GE180.out) | exact HB.out)) hb)
                        have z_HO188 := fun (h0_ : b 19 = true) => (show Kd.R (Kd.int .i64) 3 w39 w.heap.size (fun _ => True) v187 y186 from by first | exact (Kd.R_below (by (with_reducible repeat (first | apply Kd.R_alloc | apply Kd.R_drewN | apply Kd.R_drew)); exact (Q_HO188 h0_)) hb) | exact Kd.R_mono (Kd.R_below (by (with_reducible repeat (first | apply Kd.R_alloc | apply Kd.R_drewN | apply Kd.R_drew)); exact (Q_HO188 h0_)) hb) (fun _ h_ => by first | trivial | exact h_ | exact h_.1))
                        clear HO183
                        clear BK168
                        clear BK180
                        clear HB
                        have HO183 := n0_
                        have BK168 := n1_
                        have BK180 := n2_
                        have HB := n3_
                        clear n0_ n1_ n2_ n3_
                        (try clear hb)
                        (try clear hb2)
                        (try clear hk)
                        (try clear hi)
                        refine hK.out _ _ ⟨.slice (some adz_v182) y181.length co38, adz_v182, v187, adz_v187, m12_, m22_, (by rw [ha.out]; exact putSel_upk 12 hb_ rfl rfl rfl), (by (with_reducible repeat (first | refine blk_drewN ?_ _ | refine blk_drew ?_ | refine blk_alloc ?_ _)); exact BK168.out), (by (with_reducible repeat (first | refine blk_drewN ?_ _ | refine blk_drew ?_ | refine blk_alloc ?_ _)); exact BK180.out), (by repeat (first | (with_reducible first | exact HB.out | apply below_alloc | apply pw_below_drewN | apply below_drew1 | refine below_set ?_ GE168.out | refine below_set ?_ GE180.out) | exact HB.out)), fun _ => (by (with_reducible repeat (first | apply Kd.R_alloc | apply Kd.R_drewN | apply Kd.R_drew)); exact HO183.out), fun _ => ⟨_, rfl⟩, z_HO188, Q_HA_HO188, Q_X12_, Q_X22_⟩
                      refine steps_cons ?_ ?_
                      · rintro b a w' ⟨v182, adz_v182, v187, adz_v187, m12_, m22_, ha, Q_BK168, Q_BK180, Q_HB, Q_HO183, Q_HA_HO183, Q_HO188, Q_HA_HO188, Q_X12_, Q_X22_⟩ hb_ hon hoff
                        refine ⟨_, rfl, fun K hK => ?_⟩
                        have e52 : a.tmps[52]? = some (.bool (t169 == (rd y181 (ji21)))) := by rw [ha]; exact putSel_on (e := (15, 52, .bool (t169 == (rd y181 (ji21))))) 9 rfl rfl (hon 15 (by kernel_rfl)) rfl
                        replace ha := Aside0.mk ha
                        have BK168 := Aside0.mk Q_BK168
                        have BK180 := Aside0.mk Q_BK180
                        have HB := Aside0.mk Q_HB
                        have HO183 := Aside0.mk (Q_HO183 (hon 9 (by kernel_rfl)))
                        have HA_HO183 := Aside0.mk (Q_HA_HO183 (hon 9 (by kernel_rfl)))
                        obtain ⟨co38, eo38⟩ := HA_HO183.out
                        clear HA_HO183
                        subst eo38
                        refine Kd.R_lit_step (Kd.int .i64) _ 3 ?hg (N := 56) ?hd (xs := ([2, (-1), (-4), 3] : List Int)) (inner := [.int .i64 2, .int .i64 (-1), .int .i64 (-4), .int .i64 3]) (ok := fun _ => True) (okp := fun _ => True) ?hr ?hp (fun _ hk => hk) trivial (Below.refl _ _) (Nat.le_refl _) (by simp) ?_; (case hd => rfl); (case hg => first | rfl | exact (wanted_on rfl rfl rfl (e52.trans (by first | rfl | (simp [*]; done))))); (case hr => first | (go_simp; done) | (go_simp; rfl)); (case hp => exact (Reps.one (show Kd.M (Kd.int .i64) _ _ _ 2 [.int .i64 2] from rfl) (Reps.one (show Kd.M (Kd.int .i64) _ _ _ (-1) [.int .i64 (-1)] from rfl) (Reps.one (show Kd.M (Kd.int .i64) _ _ _ (-4) [.int .i64 (-4)] from rfl) (Reps.one (show Kd.M (Kd.int .i64) _ _ _ 3 [.int .i64 3] from rfl) (Reps.none _ _))))))
                        intro v187 w39 ho40 hb hg_ hnew_
                        clear hg_ hnew_
                        (first | rw [← Ny186.out] at ho40 | (simp only [Int.reduceToNat] at ho40; rw [← Ny186.out] at ho40))
                        have n0_ := Aside0.mk (Kd.R_elder' (by (with_reducible repeat (first | apply Kd.R_alloc | apply Kd.R_drewN | apply Kd.R_drew)); exact HO183.out) (Kd.R_base ho40) hb)
                        have n1_ := Aside0.mk (Kd.R_lower (Kd.R_new' ho40 (Kd.R_lt (by (with_reducible repeat (first | apply Kd.R_alloc | apply Kd.R_drewN | apply Kd.R_drew)); exact HO183.out))) (below_size (by repeat (first | (with_reducible first | exact HB.out | apply below_alloc | apply pw_below_drewN | apply below_drew1 | refine below_set ?_ GE168.out | refine below_set ?_ GE180.out) | exact HB.out))))
                        have n2_ := Aside0.mk (blk_below (g := gb168) (o := .cells #[.int .i64 t163, .int .i64 t164, .int .i64 t165, .int .i64 t166] 24 (0, 0)) (by (with_reducible repeat (first | refine blk_drewN ?_ _ | refine blk_drew ?_ | refine blk_alloc ?_ _)); exact BK168.out) hb)
                        have n3_ := Aside0.mk (blk_below (g := gb180) (o := .cells #[.int .i64 t176, .int .i64 t177, .int .i64 t178, .int .i64 t179] 24 (0, 0)) (by (with_reducible repeat (first | refine blk_drewN ?_ _ | refine blk_drew ?_ | refine blk_alloc ?_ _)); exact BK180.out) hb)
                        have n4_ := Aside0.mk (below_step (by repeat (first | (with_reducible first | exact HB.out | apply below_alloc | apply pw_below_drewN | apply below_drew1 | refine below_set ?_ GE168.out | refine below_set ?_ GE180.out) | exact HB.out)) hb)
                        clear HO183
                        clear BK168
                        clear BK180
                        clear HB
                        have HO183 := n0_
                        have HO188 := n1_
                        have BK168 := n2_
                        have BK180 := n3_
                        have HB := n4_
                        clear n0_ n1_ n2_ n3_ n4_
                        clear hb ho40
                        obtain ⟨Ao41, co41, eo41⟩ := Kd.R_slice HO188.out
                        subst eo41
                        obtain ⟨ado41, fo41, _⟩ := Kd.at_int (Kd.R_reads' HO188.out).2.2 0 (by decide) (by rw [Ny186.out]; simp)
                        cases fo41
                        refine hK.out _ _ ⟨.slice (some adz_v182) y181.length co38, adz_v182, .slice (some ado41) y186.length co41, ado41, m12_, m22_, (by rw [ha.out]; exact putSel_upk 13 hb_ rfl rfl rfl), (by (with_reducible repeat (first | refine blk_drewN ?_ _ | refine blk_drew ?_ | refine blk_alloc ?_ _)); exact BK168.out), (by (with_reducible repeat (first | refine blk_drewN ?_ _ | refine blk_drew ?_ | refine blk_alloc ?_ _)); exact BK180.out), (by repeat (first | (with_reducible first | exact HB.out | apply below_alloc | apply pw_below_drewN | apply below_drew1 | refine below_set ?_ GE168.out | refine below_set ?_ GE180.out) | exact HB.out)), fun _ => (by (with_reducible repeat (first | apply Kd.R_alloc | apply Kd.R_drewN | apply Kd.R_drew)); exact Kd.R_mono HO183.out (fun _ hk => by first | exact hk.2 | trivial)), fun _ => ⟨_, rfl⟩, fun _ => (by (with_reducible repeat (first | apply Kd.R_alloc | apply Kd.R_drewN | apply Kd.R_drew)); exact Kd.R_mono HO188.out (fun _ hk => by first | exact hk.2 | trivial)), fun _ => ⟨_, rfl⟩, Q_X12_, fun h0_ => absurd ((hoff 22 (by kernel_rfl)).symm.trans h0_) (by decide)⟩
                      refine steps_cons ?_ ?_
                      · rintro b a w' ⟨v182, adz_v182, v187, adz_v187, m12_, m22_, ha, Q_BK168, Q_BK180, Q_HB, Q_HO183, Q_HA_HO183, Q_HO188, Q_HA_HO188, Q_X12_, Q_X22_⟩ hb_ hon hoff
                        refine ⟨_, rfl, fun K hK => ?_⟩
                        have e4 : a.tmps[4]? = some (.int .i64 t167) := by rw [ha]; exact (putSel_off rfl).trans rfl
                        have e52 : a.tmps[52]? = some (.bool (t169 == (rd y181 (ji21)))) := by rw [ha]; exact putSel_on (e := (15, 52, .bool (t169 == (rd y181 (ji21))))) 9 rfl rfl (hon 15 (by kernel_rfl)) rfl
                        replace ha := Aside0.mk ha
                        have BK168 := Aside0.mk Q_BK168
                        have BK180 := Aside0.mk Q_BK180
                        have HB := Aside0.mk Q_HB
                        have HO183 := Aside0.mk (Q_HO183 (hon 9 (by kernel_rfl)))
                        have HA_HO183 := Aside0.mk (Q_HA_HO183 (hon 9 (by kernel_rfl)))
                        refine value_ (w1 := w') (v := .int .i64 t167) (wanted_on rfl rfl rfl (e52.trans (by first | rfl | (simp [*]; done)))) rfl ?_ ?_
                        · go_simp
                          (try simp only [i64_w])
                          try rfl
                        refine hK.out _ _ ⟨v182, adz_v182, v187, adz_v187, m12_, m22_, (by rw [ha.out]; exact putSel_upk 14 hb_ rfl rfl rfl), Q_BK168, Q_BK180, Q_HB, Q_HO183, Q_HA_HO183, Q_HO188, Q_HA_HO188, Q_X12_, fun h0_ => absurd ((hoff 22 (by kernel_rfl)).symm.trans h0_) (by decide)⟩
                      refine steps_cons ?_ ?_
                      · rintro b a w' ⟨v182, adz_v182, v187, adz_v187, m12_, m22_, ha, Q_BK168, Q_BK180, Q_HB, Q_HO183, Q_HA_HO183, Q_HO188, Q_HA_HO188, Q_X12_, Q_X22_⟩ hb_ hon hoff
                        refine ⟨_, rfl, fun K hK => ?_⟩
                        have e57 : a.tmps[57]? = some (.int .i64 t167) := by rw [ha]; exact putSel_on (e := (20, 57, .int .i64 t167)) 14 rfl rfl (hon 20 (by kernel_rfl)) rfl
                        have e52 : a.tmps[52]? = some (.bool (t169 == (rd y181 (ji21)))) := by rw [ha]; exact putSel_on (e := (15, 52, .bool (t169 == (rd y181 (ji21))))) 9 rfl rfl (hon 15 (by kernel_rfl)) rfl
                        replace ha := Aside0.mk ha
                        have BK168 := Aside0.mk Q_BK168
                        have BK180 := Aside0.mk Q_BK180
                        have HB := Aside0.mk Q_HB
                        have HO183 := Aside0.mk (Q_HO183 (hon 9 (by kernel_rfl)))
                        have HA_HO183 := Aside0.mk (Q_HA_HO183 (hon 9 (by kernel_rfl)))
                        refine value_ (w1 := w') (v := .int .i64 ji21) (wanted_on rfl rfl rfl (e52.trans (by first | rfl | (simp [*]; done)))) rfl ?_ ?_
                        · go_simp
                          (try simp only [i64_w])
                          try rfl
                        refine hK.out _ _ ⟨v182, adz_v182, v187, adz_v187, m12_, m22_, (by rw [ha.out]; exact putSel_upk 15 hb_ rfl rfl rfl), Q_BK168, Q_BK180, Q_HB, Q_HO183, Q_HA_HO183, Q_HO188, Q_HA_HO188, Q_X12_, fun h0_ => absurd ((hoff 22 (by kernel_rfl)).symm.trans h0_) (by decide)⟩
                      refine steps_cons ?_ ?_
                      · rintro b a w' ⟨v182, adz_v182, v187, adz_v187, m12_, m22_, ha, Q_BK168, Q_BK180, Q_HB, Q_HO183, Q_HA_HO183, Q_HO188, Q_HA_HO188, Q_X12_, Q_X22_⟩ hb_ hon hoff
                        refine ⟨_, rfl, fun K hK => ?_⟩
                        have e56 : a.tmps[56]? = some (v187) := by rw [ha]; exact putSel_on (e := (19, 56, v187)) 13 rfl rfl (hon 19 (by kernel_rfl)) rfl
                        have e58 : a.tmps[58]? = some (.int .i64 ji21) := by rw [ha]; exact putSel_on (e := (21, 58, .int .i64 ji21)) 15 rfl rfl (hon 21 (by kernel_rfl)) rfl
                        have e52 : a.tmps[52]? = some (.bool (t169 == (rd y181 (ji21)))) := by rw [ha]; exact putSel_on (e := (15, 52, .bool (t169 == (rd y181 (ji21))))) 9 rfl rfl (hon 15 (by kernel_rfl)) rfl
                        replace ha := Aside0.mk ha
                        have BK168 := Aside0.mk Q_BK168
                        have BK180 := Aside0.mk Q_BK180
                        have HB := Aside0.mk Q_HB
                        have HO183 := Aside0.mk (Q_HO183 (hon 9 (by kernel_rfl)))
                        have HA_HO183 := Aside0.mk (Q_HA_HO183 (hon 9 (by kernel_rfl)))
                        have HO188 := Aside0.mk (Q_HO188 (hon 19 (by kernel_rfl)))
                        have HA_HO188 := Aside0.mk (Q_HA_HO188 (hon 19 (by kernel_rfl)))
                        obtain ⟨c_, hv_⟩ := HA_HO188.out
                        rw [hv_] at e56
                        refine value_ (w1 := w') (v := .pointer (some (adz_v187.add ((ji21)).toNat))) (wanted_on rfl rfl rfl (e52.trans (by first | rfl | (simp [*]; done)))) rfl ?_ ?_
                        · go_simp
                          (try simp only [i64_w])
                          try rfl
                        refine hK.out _ _ ⟨v182, adz_v182, v187, adz_v187, m12_, (.pointer (some (adz_v187.add ((ji21)).toNat))), (by rw [ha.out]; exact putSel_upk 16 hb_ rfl rfl rfl), Q_BK168, Q_BK180, Q_HB, Q_HO183, Q_HA_HO183, Q_HO188, Q_HA_HO188, Q_X12_, fun _ => rfl⟩
                      refine steps_cons ?_ ?_
                      · rintro b a w' ⟨v182, adz_v182, v187, adz_v187, m12_, m22_, ha, Q_BK168, Q_BK180, Q_HB, Q_HO183, Q_HA_HO183, Q_HO188, Q_HA_HO188, Q_X12_, Q_X22_⟩ hb_ hon hoff
                        refine ⟨_, rfl, fun K hK => ?_⟩
                        have e59 : a.tmps[59]? = some (m22_) := by rw [ha]; exact putSel_on (e := (22, 59, m22_)) 16 rfl rfl (hon 22 (by kernel_rfl)) rfl
                        rw [Q_X22_ (hon 22 (by kernel_rfl))] at e59
                        have e52 : a.tmps[52]? = some (.bool (t169 == (rd y181 (ji21)))) := by rw [ha]; exact putSel_on (e := (15, 52, .bool (t169 == (rd y181 (ji21))))) 9 rfl rfl (hon 15 (by kernel_rfl)) rfl
                        replace ha := Aside0.mk ha
                        have BK168 := Aside0.mk Q_BK168
                        have BK180 := Aside0.mk Q_BK180
                        have HB := Aside0.mk Q_HB
                        have HO183 := Aside0.mk (Q_HO183 (hon 9 (by kernel_rfl)))
                        have HA_HO183 := Aside0.mk (Q_HA_HO183 (hon 9 (by kernel_rfl)))
                        have HO188 := Aside0.mk (Q_HO188 (hon 19 (by kernel_rfl)))
                        have HA_HO188 := Aside0.mk (Q_HA_HO188 (hon 19 (by kernel_rfl)))
                        obtain ⟨c_, hv_⟩ := HA_HO188.out
                        have hF_ := HO188.out
                        rw [hv_] at hF_
                        obtain ⟨ad_, ea_, hx_⟩ := Kd.at_int (Kd.R_reads' hF_).2.2 (ji21) (of_eq_true pi189) (of_eq_true qi189)
                        cases ea_
                        refine value_ (w1 := w') (v := .int .i64 (rd y186 (ji21))) (wanted_on rfl rfl rfl (e52.trans (by first | rfl | (simp [*]; done)))) rfl ?_ ?_
                        · go_simp
                          (try simp only [i64_w])
                          try rfl
                        refine hK.out _ _ ⟨v182, adz_v182, v187, adz_v187, m12_, m22_, (by rw [ha.out]; exact putSel_upk 17 hb_ rfl rfl rfl), Q_BK168, Q_BK180, Q_HB, Q_HO183, Q_HA_HO183, Q_HO188, Q_HA_HO188, Q_X12_, Q_X22_⟩
                      refine steps_cons ?_ ?_
                      · rintro b a w' ⟨v182, adz_v182, v187, adz_v187, m12_, m22_, ha, Q_BK168, Q_BK180, Q_HB, Q_HO183, Q_HA_HO183, Q_HO188, Q_HA_HO188, Q_X12_, Q_X22_⟩ hb_ hon hoff
                        refine ⟨_, rfl, fun K hK => ?_⟩
                        have e55 : a.tmps[55]? = some (.int .i64 t185) := by rw [ha]; exact putSel_on (e := (18, 55, .int .i64 t185)) 12 rfl rfl (hon 18 (by kernel_rfl)) rfl
                        have e60 : a.tmps[60]? = some (.int .i64 (rd y186 (ji21))) := by rw [ha]; exact putSel_on (e := (23, 60, .int .i64 (rd y186 (ji21)))) 17 rfl rfl (hon 23 (by kernel_rfl)) rfl
                        have e52 : a.tmps[52]? = some (.bool (t169 == (rd y181 (ji21)))) := by rw [ha]; exact putSel_on (e := (15, 52, .bool (t169 == (rd y181 (ji21))))) 9 rfl rfl (hon 15 (by kernel_rfl)) rfl
                        replace ha := Aside0.mk ha
                        have BK168 := Aside0.mk Q_BK168
                        have BK180 := Aside0.mk Q_BK180
                        have HB := Aside0.mk Q_HB
                        have HO183 := Aside0.mk (Q_HO183 (hon 9 (by kernel_rfl)))
                        have HA_HO183 := Aside0.mk (Q_HA_HO183 (hon 9 (by kernel_rfl)))
                        have HO188 := Aside0.mk (Q_HO188 (hon 19 (by kernel_rfl)))
                        have HA_HO188 := Aside0.mk (Q_HA_HO188 (hon 19 (by kernel_rfl)))
                        refine value_ (w1 := w') (v := .bool (t185 == (rd y186 (ji21)))) (wanted_on rfl rfl rfl (e52.trans (by first | rfl | (simp [*]; done)))) rfl ?_ ?_
                        · go_simp
                          (try simp only [i64_w])
                          try rfl
                        refine hK.out _ _ ⟨v182, adz_v182, v187, adz_v187, m12_, m22_, (by rw [ha.out]; exact putSel_upk 18 hb_ rfl rfl rfl), Q_BK168, Q_BK180, Q_HB, Q_HO183, Q_HA_HO183, Q_HO188, Q_HA_HO188, Q_X12_, Q_X22_⟩
                      refine steps_cons ?_ ?_
                      · rintro b a w' ⟨v182, adz_v182, v187, adz_v187, m12_, m22_, ha, Q_BK168, Q_BK180, Q_HB, Q_HO183, Q_HA_HO183, Q_HO188, Q_HA_HO188, Q_X12_, Q_X22_⟩ hb_ hon hoff
                        refine ⟨_, rfl, fun K hK => ?_⟩
                        have e52 : a.tmps[52]? = some (.bool (t169 == (rd y181 (ji21)))) := by rw [ha]; exact putSel_on (e := (15, 52, .bool (t169 == (rd y181 (ji21))))) 9 rfl rfl (hon 15 (by kernel_rfl)) rfl
                        have e61 : a.tmps[61]? = some (.bool (t185 == (rd y186 (ji21)))) := by rw [ha]; exact putSel_on (e := (24, 61, .bool (t185 == (rd y186 (ji21))))) 18 rfl rfl (hon 24 (by kernel_rfl)) rfl
                        replace ha := Aside0.mk ha
                        have BK168 := Aside0.mk Q_BK168
                        have BK180 := Aside0.mk Q_BK180
                        have HB := Aside0.mk Q_HB
                        have HO183 := Aside0.mk (Q_HO183 (hon 9 (by kernel_rfl)))
                        have HA_HO183 := Aside0.mk (Q_HA_HO183 (hon 9 (by kernel_rfl)))
                        have HO188 := Aside0.mk (Q_HO188 (hon 19 (by kernel_rfl)))
                        have HA_HO188 := Aside0.mk (Q_HA_HO188 (hon 19 (by kernel_rfl)))
                        refine value_ (w1 := w') (v := .bool (t185 == (rd y186 (ji21)))) (by rfl) rfl ?_ ?_
                        · go_simp
                          (try simp only [i64_w])
                          try rfl
                        refine hK.out _ _ ⟨v182, adz_v182, v187, adz_v187, m12_, m22_, (by rw [ha.out]; exact putSel_upk 19 hb_ rfl rfl rfl), Q_BK168, Q_BK180, Q_HB, Q_HO183, Q_HA_HO183, Q_HO188, Q_HA_HO188, Q_X12_, Q_X22_⟩
                      refine steps_cons ?_ ?_
                      · rintro b a w' ⟨v182, adz_v182, v187, adz_v187, m12_, m22_, ha, Q_BK168, Q_BK180, Q_HB, Q_HO183, Q_HA_HO183, Q_HO188, Q_HA_HO188, Q_X12_, Q_X22_⟩ hb_ hon hoff
                        refine ⟨_, rfl, fun K hK => ?_⟩
                        have e62 : a.tmps[62]? = some (.bool (t185 == (rd y186 (ji21)))) := by rw [ha]; exact putSel_on (e := (25, 62, .bool (t185 == (rd y186 (ji21))))) 19 rfl rfl (hon 25 (by kernel_rfl)) rfl
                        replace ha := Aside0.mk ha
                        have BK168 := Aside0.mk Q_BK168
                        have BK180 := Aside0.mk Q_BK180
                        have HB := Aside0.mk Q_HB
                        have HO183 := Aside0.mk (Q_HO183 (hon 9 (by kernel_rfl)))
                        have HA_HO183 := Aside0.mk (Q_HA_HO183 (hon 9 (by kernel_rfl)))
                        have HO188 := Aside0.mk (Q_HO188 (hon 19 (by kernel_rfl)))
                        have HA_HO188 := Aside0.mk (Q_HA_HO188 (hon 19 (by kernel_rfl)))
                        refine value_ (w1 := w') (v := .bool (t185 == (rd y186 (ji21)))) (by rfl) rfl ?_ ?_
                        · go_simp
                          (try simp only [i64_w])
                          try rfl
                        refine hK.out _ _ ⟨v182, adz_v182, v187, adz_v187, m12_, m22_, (by rw [ha.out]; exact putSel_upk 20 hb_ rfl rfl rfl), Q_BK168, Q_BK180, Q_HB, Q_HO183, Q_HA_HO183, Q_HO188, Q_HA_HO188, Q_X12_, Q_X22_⟩
                      exact steps_nil
                    rintro b a w41 hall ⟨v182, adz_v182, v187, adz_v187, m12_, m22_, ha, Q_BK168, Q_BK180, Q_HB, Q_HO183, Q_HA_HO183, Q_HO188, Q_HA_HO188, Q_X12_, Q_X22_⟩
                    clear BK168 BK180 HB
                    have hb2_ := hall 2 (by kernel_rfl)
                    have hb4_ := hall 4 (by kernel_rfl)
                    have hb6_ := hall 6 (by kernel_rfl)
                    have hb8_ := hall 8 (by kernel_rfl)
                    have hb9_ := hall 9 (by kernel_rfl)
                    have hb11_ := hall 11 (by kernel_rfl)
                    have hb12_ := hall 12 (by kernel_rfl)
                    have hb13_ := hall 13 (by kernel_rfl)
                    have hb14_ := hall 14 (by kernel_rfl)
                    have hb15_ := hall 15 (by kernel_rfl)
                    have hb16_ := hall 16 (by kernel_rfl)
                    have hb17_ := hall 17 (by kernel_rfl)
                    have hb18_ := hall 18 (by kernel_rfl)
                    have hb19_ := hall 19 (by kernel_rfl)
                    have hb20_ := hall 20 (by kernel_rfl)
                    have hb21_ := hall 21 (by kernel_rfl)
                    have hb22_ := hall 22 (by kernel_rfl)
                    have hb23_ := hall 23 (by kernel_rfl)
                    have hb24_ := hall 24 (by kernel_rfl)
                    have hb25_ := hall 25 (by kernel_rfl)
                    have hb26_ := hall 26 (by kernel_rfl)
                    subst ha
                    obtain rfl := Q_X12_ hb12_
                    obtain rfl := Q_X22_ hb22_
                    simp only [putSel, hb2_, hb4_, hb6_, hb8_, hb9_, hb11_, hb12_, hb13_, hb14_, hb15_, hb16_, hb17_, hb18_, hb19_, hb20_, hb21_, hb22_, hb23_, hb24_, hb25_, hb26_, if_true, Act.put, List.setIfInBounds_toArray, List.set_cons_zero, List.set_cons_succ]
                    have BK168 := Aside0.mk Q_BK168
                    clear Q_BK168
                    have BK180 := Aside0.mk Q_BK180
                    clear Q_BK180
                    have HB := Aside0.mk Q_HB
                    clear Q_HB
                    have HO183 := Aside0.mk (Q_HO183 hb9_)
                    clear Q_HO183
                    have HA_HO183 := Aside0.mk (Q_HA_HO183 hb9_)
                    clear Q_HA_HO183
                    have HO188 := Aside0.mk (Q_HO188 hb19_)
                    clear Q_HO188
                    have HA_HO188 := Aside0.mk (Q_HA_HO188 hb19_)
                    clear Q_HA_HO188
                    clear hall hb2_ hb4_ hb6_ hb8_ hb9_ hb11_ hb12_ hb13_ hb14_ hb15_ hb16_ hb17_ hb18_ hb19_ hb20_ hb21_ hb22_ hb23_ hb24_ hb25_ hb26_
                    obtain ⟨co42, eo42⟩ := HA_HO183.out
                    clear HA_HO183
                    subst eo42
                    obtain ⟨co43, eo43⟩ := HA_HO188.out
                    clear HA_HO188
                    subst eo43
                    try go_wp2
                    go_ret
                    exact ⟨by first | rfl | (refine congrArg (fun b_ => Ending.returned (Value.bool b_)) ?_; first | exact hrt_.out | simpa using hrt_.out | (have hq_ := hrt_.out; simp at hq_ ⊢; omega)) | (simp [errW_none, errW_some] <;> rfl) | (simp only [← hji21]; first | rfl | (simp [errW_none, errW_some] <;> rfl)) | (simp [*, errW_none, errW_some] <;> rfl), by repeat (first | (with_reducible first | exact HB.out | apply below_alloc | apply pw_below_drewN | apply below_drew1 | refine below_set ?_ GE168.out | refine below_set ?_ GE180.out) | exact HB.out)⟩
                  · rw [if_neg c26] at H
                    exact absurd H (by simp)
                · rw [if_neg c24] at H
                  have c24b0 : (t169 == (rd y181 (ji21))) = false := beq_eq_false_iff_ne.mpr c24
                  have c24b1 : (t169 != (rd y181 (ji21))) = true := bne_iff_ne.mpr c24
                  exact absurd H (by simp)
              · rw [if_neg c23] at H
                exact absurd H (by simp)
            · rw [if_neg c22] at H
              exact absurd H (by simp)
    · rw [if_neg c6] at H
      have c6b0 : (t169 == t170) = false := beq_eq_false_iff_ne.mpr c6
      have c6b1 : (t169 != t170) = true := bne_iff_ne.mpr c6
      exact absurd H (by simp)

/-- THE ONE PURE STATEMENT of laws_FnAggTell: yours. -/
def laws_FnAggTell.Pure : Prop := ∀ (l0 : List Int), l0.length ≤ maxLen → l0.length * 1 ≤ 140737488351232 → (∀ x ∈ l0, (Lit.int .u8 x).wf = true) → ∃ k, laws_FnAggTell.f k l0 = some true
theorem laws_FnAggTell.walk (P : laws_FnAggTell.Pure) (a0 : Option Addr) (len0 cap0 : Nat) (z0 : List Int) (w : World) (w0 : (a0 = none ∧ len0 = 0 ∧ cap0 = 0 ∧ z0 = []) ∨ ∃ x, a0 = some x ∧ len0 ≤ cap0 ∧ cap0 ≤ maxLen ∧ z0.length = cap0 ∧ (∀ i, i < z0.length → w.cell? (x.add i) = some (.int .u8 (z0.getD i 0))) ∧ ∀ n ∈ z0, (Lit.int .u8 n).wf = true) (y0 : len0 * 1 ≤ 140737488351232) :
    Calls Try.prog 13 #[.slice a0 len0 cap0] w fun e w' => e = .returned (.bool true) ∧ Below w.heap.size w w' := by
  obtain ⟨l0, rfl, hr0, hm0, hw0, hc0⟩ := ReadsInt.ofRowC w0
  obtain ⟨k, h⟩ := P l0 hm0 y0 hw0
  refine (laws_FnAggTell.calls k _ _ l0 w (Kd.C_of_reads (d := (0 : Int)) (h1 := fun _ => rfl) hr0) hc0 h).mono ?_
  rintro e w' ⟨rfl, hd⟩
  exact ⟨rfl, hd⟩

end Go.Proofs.Ytgmkfhgebinfgaa.PFnAggTell
