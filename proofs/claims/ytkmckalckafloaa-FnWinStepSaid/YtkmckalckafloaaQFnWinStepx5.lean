/- Functions of the program as Lean functions, with their contracts, written by a program of mine over the kit's printer and in part by hand. No condition of its own. -/
import Derived.Test.YtkmckalckafloaaQFnWinStepx0
import Derived.Test.YtkmckalckafloaaQFnWinStepx2
import Derived.Test.YtkmckalckafloaaQFnWinStepx4
namespace Go.Proofs.Ytkmckalckafloaa.PFnWinStep
open Go.RowKit Go.Proofs.YtkmckalckafloaaW.PrintWords Go.Proofs.YtkmckalckafloaaW.PrintLast Go.Proofs.YtkmckalckafloaaW.PrintMore
attribute [local go_sem] max2_int min2_int max_two min_two max_three min_three max_four min_four   -- for this text's walks alone
set_option linter.unusedVariables false
set_option linter.unusedSimpArgs false

/-! ### spec_DrawWinOf: function 33 -/
def spec_DrawWinOf.f (k : Nat) (l0 : List Int) : Option (Int × Int × Int × Int × Int × Int × Int × Bool × Int × Int × Int) := (spec_l20Open.f l0).bind fun bt167 => ((spec_l20AnyJob.f k bt167.1 bt167.2 12).bind fun bt170 => ((spec_l20Rd_pick.f k bt167.1 bt170.2.2.2.2.2.2.2.2.2.2 60).bind fun bt181 => ((some (([0, 1, 19, 20, 60, 61, (-1), bt181.1] : List Int) : List Int)).bind fun y183 => ((spec_l20Rd_pick.f k bt167.1 bt181.2 8).bind fun bt186 => (if 0 ≤ bt186.1 then (if bt186.1 < (y183.length : Int) then (some (bt170.1, bt170.2.1, bt170.2.2.1, bt170.2.2.2.1, bt170.2.2.2.2.1, bt170.2.2.2.2.2.1, bt170.2.2.2.2.2.2.1, bt170.2.2.2.2.2.2.2.1, bt170.2.2.2.2.2.2.2.2.1, bt170.2.2.2.2.2.2.2.2.2.1, rd y183 bt186.1)) else (none)) else (none))))))
theorem spec_DrawWinOf.mono : ∀ a0 k, LeO (spec_DrawWinOf.f k a0) (spec_DrawWinOf.f (k + 1) a0) := by
 intro a0 k
 unfold spec_DrawWinOf.f
 repeat' first
   | (with_reducible exact spec_l20AnyJob.mono _ _ _ _)
   | (with_reducible exact spec_l20Rd_pick.mono _ _ _ _)
   | (with_reducible exact LeO.refl _)
   | (with_reducible exact LeO.none _)
   | (with_reducible refine LeO.ite ?_ ?_)
   | (with_reducible refine LeO.bind ?_ (fun _ => ?_))
   | exact spec_l20AnyJob.mono _ _ _ _
   | exact spec_l20Rd_pick.mono _ _ _ _
   | exact LeO.none _
   | refine LeO.ite ?_ ?_
   | refine LeO.bind ?_ (fun _ => ?_)
def spec_DrawWinOf.T2 : Bool × List (List Nat × List Nat) := (true, [([], []), ([0], [0]), ([], []), ([2, 1], [2]), ([3], [3]), ([], []), ([5, 3], [5]), ([4, 6], [4, 6]), ([7], [7]), ([1, 6, 0, 1], [1]), ([8, 9, 0, 1, 2, 3, 4, 5, 6, 7, 8, 9], [8])])
def spec_DrawWinOf.B2 : List Nat := [0, 1, 0, 7, 15, 0, 47, 127, 255, 111, 1023]
theorem spec_DrawWinOf.tab2 : rtab .any (opsOf Try.f33 2) = spec_DrawWinOf.T2 := by kernel_rfl
theorem spec_DrawWinOf.bits2 : waitsOk spec_DrawWinOf.T2.2 spec_DrawWinOf.B2 = true := by kernel_rfl
set_option maxHeartbeats 8000000 in
set_option maxRecDepth 100000 in
theorem spec_DrawWinOf.calls (k : Nat) (A0 : Option Addr) (c0 : Nat) (l0 : List Int) (r1 : Int) (r2 : Int) (r3 : Int) (r4 : Int) (r5 : Int) (r6 : Int) (r7 : Int) (r8 : Bool) (r9 : Int) (r10 : Int) (r11 : Int) (w : World) (hr0 : Kd.C (Kd.int .u8) w A0 l0.length l0) (hc0 : l0.length ≤ c0) (h : spec_DrawWinOf.f k l0 = some (r1, r2, r3, r4, r5, r6, r7, r8, r9, r10, r11)) :
  Calls Try.prog 33 #[.slice A0 l0.length c0] w fun e w' => e = .returned (.tuple #[.agg #[.int .i64 r1, .int .i64 r2, .int .i64 r3, .int .i64 r4, .int .i64 r5, .int .i64 r6, .int .i64 r7, .bool r8, .int .i64 r9, .int .i64 r10], .int .i64 r11]) ∧ Below w.heap.size w w' := by
 have hu50 := Try.underlying50
 have HR0 := Aside0.mk hr0
 have HC0 := Aside0.mk hc0
 clear hr0 hc0
 have HB := Aside0.mk (Below.refl w.heap.size w)
 have H : ((spec_l20Open.f l0).bind fun bt167 => ((spec_l20AnyJob.f k bt167.1 bt167.2 12).bind fun bt170 => ((spec_l20Rd_pick.f k bt167.1 bt170.2.2.2.2.2.2.2.2.2.2 60).bind fun bt181 => ((some (([0, 1, 19, 20, 60, 61, (-1), bt181.1] : List Int) : List Int)).bind fun y183 => ((spec_l20Rd_pick.f k bt167.1 bt181.2 8).bind fun bt186 => (if 0 ≤ bt186.1 then (if bt186.1 < (y183.length : Int) then (some (bt170.1, bt170.2.1, bt170.2.2.1, bt170.2.2.2.1, bt170.2.2.2.2.1, bt170.2.2.2.2.2.1, bt170.2.2.2.2.2.2.1, bt170.2.2.2.2.2.2.2.1, bt170.2.2.2.2.2.2.2.2.1, bt170.2.2.2.2.2.2.2.2.2.1, rd y183 bt186.1)) else (none)) else (none))))))) = some (r1, r2, r3, r4, r5, r6, r7, r8, r9, r10, r11) := h
 clear h
 replace H := Option.bind_eq_some_iff.mp H
 obtain ⟨⟨t167, t168⟩, A20, H⟩ := H
 replace H : ((spec_l20AnyJob.f k t167 t168 12).bind fun bt170 => ((spec_l20Rd_pick.f k t167 bt170.2.2.2.2.2.2.2.2.2.2 60).bind fun bt181 => ((some (([0, 1, 19, 20, 60, 61, (-1), bt181.1] : List Int) : List Int)).bind fun y183 => ((spec_l20Rd_pick.f k t167 bt181.2 8).bind fun bt186 => (if 0 ≤ bt186.1 then (if bt186.1 < (y183.length : Int) then (some (bt170.1, bt170.2.1, bt170.2.2.1, bt170.2.2.2.1, bt170.2.2.2.2.1, bt170.2.2.2.2.2.1, bt170.2.2.2.2.2.2.1, bt170.2.2.2.2.2.2.2.1, bt170.2.2.2.2.2.2.2.2.1, bt170.2.2.2.2.2.2.2.2.2.1, rd y183 bt186.1)) else (none)) else (none)))))) = some (r1, r2, r3, r4, r5, r6, r7, r8, r9, r10, r11) := H
 have A2 := Aside0.mk A20
 clear A20
 replace H := Option.bind_eq_some_iff.mp H
 obtain ⟨⟨t170, t171, t172, t173, t174, t175, t176, t177, t178, t179, t180⟩, A30, H⟩ := H
 replace H : ((spec_l20Rd_pick.f k t167 t180 60).bind fun bt181 => ((some (([0, 1, 19, 20, 60, 61, (-1), bt181.1] : List Int) : List Int)).bind fun y183 => ((spec_l20Rd_pick.f k t167 bt181.2 8).bind fun bt186 => (if 0 ≤ bt186.1 then (if bt186.1 < (y183.length : Int) then (some (t170, t171, t172, t173, t174, t175, t176, t177, t178, t179, rd y183 bt186.1)) else (none)) else (none))))) = some (r1, r2, r3, r4, r5, r6, r7, r8, r9, r10, r11) := H
 have A3 := Aside0.mk A30
 clear A30
 replace H := Option.bind_eq_some_iff.mp H
 obtain ⟨⟨t181, t182⟩, A40, H⟩ := H
 replace H : ((some (([0, 1, 19, 20, 60, 61, (-1), t181] : List Int) : List Int)).bind fun y183 => ((spec_l20Rd_pick.f k t167 t182 8).bind fun bt186 => (if 0 ≤ bt186.1 then (if bt186.1 < (y183.length : Int) then (some (t170, t171, t172, t173, t174, t175, t176, t177, t178, t179, rd y183 bt186.1)) else (none)) else (none)))) = some (r1, r2, r3, r4, r5, r6, r7, r8, r9, r10, r11) := H
 have A4 := Aside0.mk A40
 clear A40
 obtain ⟨y183, hy183⟩ : ∃ y_ : List Int, y_ = (([0, 1, 19, 20, 60, 61, (-1), t181] : List Int)) := ⟨_, rfl⟩
 replace H : ((spec_l20Rd_pick.f k t167 t182 8).bind fun bt186 => (if 0 ≤ bt186.1 then (if bt186.1 < (y183.length : Int) then (some (t170, t171, t172, t173, t174, t175, t176, t177, t178, t179, rd y183 bt186.1)) else (none)) else (none))) = some (r1, r2, r3, r4, r5, r6, r7, r8, r9, r10, r11) := by first | (rw [hy183]; with_reducible exact H) | (have H2_ := (Option.bind_some _ _).symm.trans H; rw [hy183]; with_reducible exact H2_) | (have H2_ := (Option.bind_some _ _).symm.trans H; with_reducible exact H2_) | with_reducible exact H | (rw [hy183]; exact H) | exact H
 have Ny183 := Aside0.mk hy183
 clear hy183
 replace H := Option.bind_eq_some_iff.mp H
 obtain ⟨⟨t186, t187⟩, A50, H⟩ := H
 replace H : (if 0 ≤ t186 then (if t186 < (y183.length : Int) then (some (t170, t171, t172, t173, t174, t175, t176, t177, t178, t179, rd y183 t186)) else (none)) else (none)) = some (r1, r2, r3, r4, r5, r6, r7, r8, r9, r10, r11) := H
 have A5 := Aside0.mk A50
 clear A50
 by_cases c6 : 0 ≤ t186
 ·rw [if_pos c6] at H
  have c6b0 : decide (0 ≤ t186) = true := decide_eq_true c6
  clear c6
  by_cases c7 : t186 < (y183.length : Int)
  ·rw [if_pos c7] at H
   have c7b0 : decide (t186 < (y183.length : Int)) = true := decide_eq_true c7
   clear c7
   simp only [Option.some.injEq, Prod.mk.injEq] at H
   obtain ⟨rfl, rfl, rfl, rfl, rfl, rfl, rfl, rfl, rfl, rfl, rfl⟩ := H
   go_enter Try.func33, Try.ntmps33
   try go_wp2_with (first | ((with_reducible refine gate_dst (N := 2) rfl ?_); refine box_event ?hg (N := 2) ?hd (cs := #[.int .i64 0, .int .i64 0, .int .i64 0, .int .i64 0, .int .i64 0, .int .i64 0, .int .i64 0, .bool false, .int .i64 0, .int .i64 0]) (t := 50) ?hr ?_; (case hd => rfl); (case hg => rfl); (case hr => first | (go_simp; done) | (go_simp; rfl)); intro gb166 hg w8 hbox hb; have n0_ := Aside0.mk (below_step (by repeat (first | (with_reducible first | exact HB.out | apply below_alloc | apply pw_below_drewN | apply below_drew1) | exact HB.out)) hb); have n1_ := Aside0.mk (hbox); have n2_ := Aside0.mk ((by rw [hg]; exact (below_size (by repeat (first | (with_reducible first | exact HB.out | apply below_alloc | apply pw_below_drewN | apply below_drew1) | exact HB.out))) : w.heap.size ≤ gb166)); have n3_ := Aside0.mk ((by rw [hg]; exact (below_size (by repeat (first | (with_reducible first | exact HB.out | apply below_alloc | apply pw_below_drewN | apply below_drew1) | exact HB.out))) : w.heap.size ≤ gb166)); clear HB; have HB := n0_; have BK166 := n1_; have GW166 := n2_; have GE166 := n3_; clear n0_ n1_ n2_ n3_; clear hb hbox hg) | ((with_reducible refine gate_callee (f := 72) rfl ?_); refine goesL_ (some 6) rfl rfl Try.func72 (by kernel_rfl) rfl #[.slice A0 l0.length c0] rfl (by (try simp only [List.map_toArray, List.map_cons, List.map_nil]); first | done | rfl | (simp only [List.length_drop, List.length_take]; rfl)) ?_; (with_reducible refine (spec_l20Open.calls _ _ l0 t167 t168 w _ ?side1 ?side2 ?side3 A2.out).mono ?_); (case side1 => repeat (first | (with_reducible first | exact HB.out | apply below_alloc | apply pw_below_drewN | apply below_drew1 | refine below_set ?_ GE166.out) | exact HB.out)); (case side2 => exact HR0.out); (case side3 => exact HC0.out); rintro e w9 ⟨g169, rfl, hi, hb, hb2⟩; refine ⟨_, rfl, ?_⟩; have n0_ := Aside0.mk (blk_below (g := gb166) (o := .cells #[.int .i64 0, .int .i64 0, .int .i64 0, .int .i64 0, .int .i64 0, .int .i64 0, .int .i64 0, .bool false, .int .i64 0, .int .i64 0] 50 (0, 0)) (by (with_reducible repeat (first | refine blk_drewN ?_ _ | refine blk_drew ?_ | refine blk_alloc ?_ _)); exact BK166.out) hb2); have n1_ := Aside0.mk (hb); have n2_ := Aside0.mk (hi); have n3_ := Aside0.mk (IsS115.ne_blk hi (blk_below (g := gb166) (o := .cells #[.int .i64 0, .int .i64 0, .int .i64 0, .int .i64 0, .int .i64 0, .int .i64 0, .int .i64 0, .bool false, .int .i64 0, .int .i64 0] 50 (0, 0)) (by (with_reducible repeat (first | refine blk_drewN ?_ _ | refine blk_drew ?_ | refine blk_alloc ?_ _)); exact BK166.out) hb2) (by decide)); have n4_ := Aside0.mk (Ne.symm (IsS115.ne_blk hi (blk_below (g := gb166) (o := .cells #[.int .i64 0, .int .i64 0, .int .i64 0, .int .i64 0, .int .i64 0, .int .i64 0, .int .i64 0, .bool false, .int .i64 0, .int .i64 0] 50 (0, 0)) (by (with_reducible repeat (first | refine blk_drewN ?_ _ | refine blk_drew ?_ | refine blk_alloc ?_ _)); exact BK166.out) hb2) (by decide))); clear BK166; clear HB; have BK166 := n0_; have HB := n1_; have HI169 := n2_; have NB169_166 := n3_; have NB166_169 := n4_; clear n0_ n1_ n2_ n3_ n4_; (try clear hb); (try clear hb2); (try clear hk); (try clear hi)))
   have pi188 : (0 ≤ (t186 : Int)) = True := eq_true (of_decide_eq_true (by first | (with_reducible assumption) | assumption))
   have qi188 : (t186 < (y183.length : Int)) = True := eq_true (of_decide_eq_true (by first | (with_reducible assumption) | assumption))
   have n0_ := Aside0.mk (blk_drew BK166.out)
   have n1_ := Aside0.mk (IsS115.drew HI169.out)
   have n2_ := Aside0.mk (below_drew1 HB.out)
   clear BK166
   clear HI169
   clear HB
   have BK166 := n0_
   have HI169 := n1_
   have HB := n2_
   clear n0_ n1_ n2_
   refine start_ (n := 11) (S := fun w' => True) (ds := []) #[false, false, false, false, false, false, false, false, false, false, false] (by kernel_rfl) rfl rfl trivial (fun hHeld => ?_); refine with_tabW spec_DrawWinOf.tab2 spec_DrawWinOf.bits2 (fun HT_ HW_ => ?_)
   generalize w9.drew = w10 at BK166 HI169 HB hHeld ⊢
   refine pure_ (i := 0) (N := some 7) (v := ?_) (a' := ?_) #[true, false, false, false, false, false, false, false, false, false, false] rfl rfl (any_of HT_.out (by kernel_rfl)) (fun _ _ _ h => h) (Or.inl ⟨by rfl, ?_⟩) ?_ ?_
   rotate_left
   ·intro w'
    go_simp
    with_reducible rfl
   rotate_left
   ·simp only [Act.put, List.setIfInBounds_toArray, List.set_cons_zero, List.set_cons_succ, i64_w, i32_w]
    rfl
   refine pure_ (i := 2) (N := some 9) (v := ?_) (a' := ?_) #[true, false, true, false, false, false, false, false, false, false, false] rfl rfl (any_of HT_.out (by kernel_rfl)) (fun _ _ _ h => h) (Or.inl ⟨by rfl, ?_⟩) ?_ ?_
   rotate_left
   ·intro w'
    go_simp
    with_reducible rfl
   rotate_left
   ·simp only [Act.put, List.setIfInBounds_toArray, List.set_cons_zero, List.set_cons_succ, i64_w, i32_w]
    rfl
   refine pure_ (i := 5) (N := some 12) (v := ?_) (a' := ?_) #[true, false, true, false, false, true, false, false, false, false, false] rfl rfl (any_of HT_.out (by kernel_rfl)) (fun _ _ _ h => h) (Or.inl ⟨by rfl, ?_⟩) ?_ ?_
   rotate_left
   ·intro w'
    go_simp
    with_reducible rfl
   rotate_left
   ·simp only [Act.put, List.setIfInBounds_toArray, List.set_cons_zero, List.set_cons_succ, i64_w, i32_w]
    rfl
   refine inv_at [1, 3, 4, 6, 7, 8, 9, 10] (fun a0_ b a w' => ∃ (v184 : Value) (adz_v184 : Addr) (m7_ : Value), a = putSel a0_ b [(1, 8, .agg #[.int .i64 t170, .int .i64 t171, .int .i64 t172, .int .i64 t173, .int .i64 t174, .int .i64 t175, .int .i64 t176, .bool t177, .int .i64 t178, .int .i64 t179]), (3, 10, .int .i64 t181), (4, 11, v184), (6, 13, .int .i64 t186), (7, 14, m7_), (8, 15, .int .i64 (rd y183 t186)), (10, 3, .int .i64 (rd y183 t186))] ∧ (b 9 = false → w'.heap[gb166]? = some (.cells #[.int .i64 0, .int .i64 0, .int .i64 0, .int .i64 0, .int .i64 0, .int .i64 0, .int .i64 0, .bool false, .int .i64 0, .int .i64 0] 50 (0, 0))) ∧ (b 1 = false → IsS115 w w' g169 t167 t168) ∧ (Below w.heap.size w w') ∧ (b 1 = true → b 3 = false → IsS115 w w' g169 t167 t180) ∧ (b 3 = true → b 6 = false → IsS115 w w' g169 t167 t182) ∧ (b 4 = true → Kd.R (Kd.int .i64) 3 w' w.heap.size (fun _ => True) v184 y183) ∧ (b 4 = true → ∃ c_, (v184 : Value) = .slice (some adz_v184) y183.length c_) ∧ (b 6 = true → IsS115 w w' g169 t167 t187) ∧ (b 9 = true → w'.heap[gb166]? = some (.cells #[.int .i64 t170, .int .i64 t171, .int .i64 t172, .int .i64 t173, .int .i64 t174, .int .i64 t175, .int .i64 t176, .bool t177, .int .i64 t178, .int .i64 t179] 50 (0, 0))) ∧ (b 7 = true → (m7_ : Value) = .pointer (some (adz_v184.add (t186).toNat)))) HT_.out HW_.out (by kernel_rfl) (by kernel_rfl) ?_ ?_ ?_
   ·exact ⟨.bool false, ⟨0, 0, none⟩, .bool false, by simp only [putSel, Bool.false_eq_true, if_false], fun _ => BK166.out, fun _ => HI169.out, HB.out, fun h_ => absurd h_ (by decide), fun h_ => absurd h_ (by decide), fun h_ => absurd h_ (by decide), fun h_ => absurd h_ (by decide), fun h_ => absurd h_ (by decide), fun h_ => absurd h_ (by decide), fun h_ => absurd h_ (by decide)⟩
   ·skip
    clear BK166 HB HI169
    refine steps_cons ?_ ?_
    ·rintro b a w' ⟨v184, adz_v184, m7_, ha, Q_BK166, Q_HI169, Q_HB, Q_HI169_e1, Q_HI169_e3, Q_HO185, Q_HA_HO185, Q_HI169_e6, Q_BK166_e9, Q_X7_⟩ hb_ hon hoff
     refine ⟨_, rfl, fun K hK => ?_⟩
     have e7 : a.tmps[7]? = some (.pointer (some ⟨g169, 0, none⟩)) := by rw [ha]; exact (putSel_off rfl).trans rfl
     replace ha := Aside0.mk ha
     have BK166 := Aside0.mk (Q_BK166 (hoff 9 (by kernel_rfl)))
     have HI169 := Aside0.mk (Q_HI169 hb_)
     have HB := Aside0.mk Q_HB
     refine goes_ Try.func73 (by kernel_rfl) rfl #[.pointer (some ⟨g169, 0, none⟩), .int .i64 12] (by rfl) rfl rfl (by first | (simp only [List.map_toArray, List.map_cons, List.map_nil, Act.eval, Array.getD_eq_getD_getElem?, Option.getD_some, e7]; done) | (simp only [List.map_toArray, List.map_cons, List.map_nil, Act.eval, Array.getD_eq_getD_getElem?, Option.getD_some, e7]; rfl)) ?_
     with_reducible refine (spec_l20AnyJob.calls k g169 t167 t168 12 t170 t171 t172 t173 t174 t175 t176 t177 t178 t179 t180 w _ ?side1 ?side2 A3.out).mono ?_
     (case side1 => repeat (first | (with_reducible first | exact HI169.out | apply IsS115.alloc | apply IsS115.drewN | apply IsS115.drew | apply IsS115.set_1 | refine IsS115.far ?_ NB169_166.out _) | exact HI169.out))
     (case side2 => repeat (first | (with_reducible first | exact HB.out | apply below_alloc | apply pw_below_drewN | apply below_drew1 | refine below_set ?_ (IsS115.ge HI169.out) | refine below_set ?_ GE166.out) | exact HB.out))
     rintro e w11 ⟨rfl, hi, hb, hk⟩
     refine ⟨_, rfl, ?_⟩
     have n0_ := Aside0.mk (KeepBut.blk hk (g' := gb166) (o := .cells #[.int .i64 0, .int .i64 0, .int .i64 0, .int .i64 0, .int .i64 0, .int .i64 0, .int .i64 0, .bool false, .int .i64 0, .int .i64 0] 50 (0, 0)) (by (with_reducible repeat (first | refine blk_drewN ?_ _ | refine blk_drew ?_ | refine blk_alloc ?_ _)); exact BK166.out) NB166_169.out (by simp))
     have n1_ := Aside0.mk (hb)
     have n2_ := Aside0.mk (hi)
     clear BK166
     clear HB
     clear HI169
     have BK166 := n0_
     have HB := n1_
     have HI169 := n2_
     clear n0_ n1_ n2_
     (try clear hb)
     (try clear hb2)
     (try clear hk)
     (try clear hi)
     refine hK.out _ _ ⟨v184, adz_v184, m7_, (by rw [ha.out]; exact putSel_upk 0 hb_ rfl rfl rfl), fun _ => (by (with_reducible repeat (first | refine blk_drewN ?_ _ | refine blk_drew ?_ | refine blk_alloc ?_ _)); exact BK166.out), fun h0_ => absurd ((up_self b 1).symm.trans h0_) (by decide), (by repeat (first | (with_reducible first | exact HB.out | apply below_alloc | apply pw_below_drewN | apply below_drew1 | refine below_set ?_ (IsS115.ge HI169.out) | refine below_set ?_ GE166.out) | exact HB.out)), fun _ _ => (by repeat (first | (with_reducible first | exact HI169.out | apply IsS115.alloc | apply IsS115.drewN | apply IsS115.drew | apply IsS115.set_1 | refine IsS115.far ?_ NB169_166.out _) | exact HI169.out)), fun h0_ _ => absurd ((hoff 3 (by kernel_rfl)).symm.trans h0_) (by decide), fun h0_ => absurd ((hoff 4 (by kernel_rfl)).symm.trans h0_) (by decide), fun h0_ => absurd ((hoff 4 (by kernel_rfl)).symm.trans h0_) (by decide), fun h0_ => absurd ((hoff 6 (by kernel_rfl)).symm.trans h0_) (by decide), fun h0_ => absurd ((hoff 9 (by kernel_rfl)).symm.trans h0_) (by decide), fun h0_ => absurd ((hoff 7 (by kernel_rfl)).symm.trans h0_) (by decide)⟩
    refine steps_cons ?_ ?_
    ·rintro b a w' ⟨v184, adz_v184, m7_, ha, Q_BK166, Q_HI169, Q_HB, Q_HI169_e1, Q_HI169_e3, Q_HO185, Q_HA_HO185, Q_HI169_e6, Q_BK166_e9, Q_X7_⟩ hb_ hon hoff
     refine ⟨_, rfl, fun K hK => ?_⟩
     have e9 : a.tmps[9]? = some (.pointer (some ⟨g169, 0, none⟩)) := by rw [ha]; exact (putSel_off rfl).trans rfl
     replace ha := Aside0.mk ha
     have BK166 := Aside0.mk (Q_BK166 (hoff 9 (by kernel_rfl)))
     have HB := Aside0.mk Q_HB
     have HI169 := Aside0.mk (Q_HI169_e1 (hon 1 (by kernel_rfl)) hb_)
     refine goes_ Try.func74 (by kernel_rfl) rfl #[.pointer (some ⟨g169, 0, none⟩), .int .i64 60] (by rfl) rfl rfl (by first | (simp only [List.map_toArray, List.map_cons, List.map_nil, Act.eval, Array.getD_eq_getD_getElem?, Option.getD_some, e9]; done) | (simp only [List.map_toArray, List.map_cons, List.map_nil, Act.eval, Array.getD_eq_getD_getElem?, Option.getD_some, e9]; rfl)) ?_
     with_reducible refine (spec_l20Rd_pick.calls k g169 t167 t180 60 t181 t182 w _ ?side1 ?side2 A4.out).mono ?_
     (case side1 => repeat (first | (with_reducible first | exact HI169.out | apply IsS115.alloc | apply IsS115.drewN | apply IsS115.drew | apply IsS115.set_1 | refine IsS115.far ?_ NB169_166.out _) | exact HI169.out))
     (case side2 => repeat (first | (with_reducible first | exact HB.out | apply below_alloc | apply pw_below_drewN | apply below_drew1 | refine below_set ?_ (IsS115.ge HI169.out) | refine below_set ?_ GE166.out) | exact HB.out))
     rintro e w13 ⟨rfl, hi, hb, hk⟩
     refine ⟨_, rfl, ?_⟩
     have n0_ := Aside0.mk (KeepBut.blk hk (g' := gb166) (o := .cells #[.int .i64 0, .int .i64 0, .int .i64 0, .int .i64 0, .int .i64 0, .int .i64 0, .int .i64 0, .bool false, .int .i64 0, .int .i64 0] 50 (0, 0)) (by (with_reducible repeat (first | refine blk_drewN ?_ _ | refine blk_drew ?_ | refine blk_alloc ?_ _)); exact BK166.out) NB166_169.out (by simp))
     have n1_ := Aside0.mk (hb)
     have n2_ := Aside0.mk (hi)
     clear BK166
     clear HB
     clear HI169
     have BK166 := n0_
     have HB := n1_
     have HI169 := n2_
     clear n0_ n1_ n2_
     (try clear hb)
     (try clear hb2)
     (try clear hk)
     (try clear hi)
     refine hK.out _ _ ⟨v184, adz_v184, m7_, (by rw [ha.out]; exact putSel_upk 1 hb_ rfl rfl rfl), fun _ => (by (with_reducible repeat (first | refine blk_drewN ?_ _ | refine blk_drew ?_ | refine blk_alloc ?_ _)); exact BK166.out), fun h0_ => absurd ((hon 1 (by kernel_rfl)).symm.trans h0_) (by decide), (by repeat (first | (with_reducible first | exact HB.out | apply below_alloc | apply pw_below_drewN | apply below_drew1 | refine below_set ?_ (IsS115.ge HI169.out) | refine below_set ?_ GE166.out) | exact HB.out)), fun _ h1_ => absurd ((up_self b 3).symm.trans h1_) (by decide), fun _ _ => (by repeat (first | (with_reducible first | exact HI169.out | apply IsS115.alloc | apply IsS115.drewN | apply IsS115.drew | apply IsS115.set_1 | refine IsS115.far ?_ NB169_166.out _) | exact HI169.out)), fun h0_ => absurd ((hoff 4 (by kernel_rfl)).symm.trans h0_) (by decide), fun h0_ => absurd ((hoff 4 (by kernel_rfl)).symm.trans h0_) (by decide), fun h0_ => absurd ((hoff 6 (by kernel_rfl)).symm.trans h0_) (by decide), fun h0_ => absurd ((hoff 9 (by kernel_rfl)).symm.trans h0_) (by decide), fun h0_ => absurd ((hoff 7 (by kernel_rfl)).symm.trans h0_) (by decide)⟩
    refine steps_cons ?_ ?_
    ·rintro b a w' ⟨v184, adz_v184, m7_, ha, Q_BK166, Q_HI169, Q_HB, Q_HI169_e1, Q_HI169_e3, Q_HO185, Q_HA_HO185, Q_HI169_e6, Q_BK166_e9, Q_X7_⟩ hb_ hon hoff
     refine ⟨_, rfl, fun K hK => ?_⟩
     have e10 : a.tmps[10]? = some (.int .i64 t181) := by rw [ha]; exact putSel_on (e := (3, 10, .int .i64 t181)) 1 rfl rfl (hon 3 (by kernel_rfl)) rfl
     replace ha := Aside0.mk ha
     have HB := Aside0.mk Q_HB
     refine Kd.R_lit_step (Kd.int .i64) _ 3 ?hg (N := 11) ?hd (xs := ([0, 1, 19, 20, 60, 61, (-1), t181] : List Int)) (inner := [.int .i64 0, .int .i64 1, .int .i64 19, .int .i64 20, .int .i64 60, .int .i64 61, .int .i64 (-1), .int .i64 t181]) (ok := fun _ => True) (okp := fun _ => True) ?hr ?hp (fun _ hk => hk) trivial (Below.refl _ _) (Nat.le_refl _) (by simp) ?_; (case hd => rfl); (case hg => rfl); (case hr => first | (go_simp; done) | (go_simp; rfl)); (case hp => exact (Reps.one (show Kd.M (Kd.int .i64) _ _ _ 0 [.int .i64 0] from rfl) (Reps.one (show Kd.M (Kd.int .i64) _ _ _ 1 [.int .i64 1] from rfl) (Reps.one (show Kd.M (Kd.int .i64) _ _ _ 19 [.int .i64 19] from rfl) (Reps.one (show Kd.M (Kd.int .i64) _ _ _ 20 [.int .i64 20] from rfl) (Reps.one (show Kd.M (Kd.int .i64) _ _ _ 60 [.int .i64 60] from rfl) (Reps.one (show Kd.M (Kd.int .i64) _ _ _ 61 [.int .i64 61] from rfl) (Reps.one (show Kd.M (Kd.int .i64) _ _ _ (-1) [.int .i64 (-1)] from rfl) (Reps.one (show Kd.M (Kd.int .i64) _ _ _ t181 [.int .i64 t181] from rfl) (Reps.none _ _))))))))))
     intro v184 w14 ho15 hb hg_ hnew_
     clear hg_ hnew_
     (first | rw [← Ny183.out] at ho15 | (simp only [Int.reduceToNat] at ho15; rw [← Ny183.out] at ho15))
     have n0_ := Aside0.mk (Kd.R_lower ho15 (below_size (by repeat (first | (with_reducible first | exact HB.out | apply below_alloc | apply pw_below_drewN | apply below_drew1 | refine below_set ?_ GE166.out) | exact HB.out))))
     have n3_ := Aside0.mk (below_step (by repeat (first | (with_reducible first | exact HB.out | apply below_alloc | apply pw_below_drewN | apply below_drew1 | refine below_set ?_ GE166.out) | exact HB.out)) hb)
     have z_BK166 := fun (h0_ : b 9 = false) => (show w14.heap[gb166]? = some (.cells #[.int .i64 0, .int .i64 0, .int .i64 0, .int .i64 0, .int .i64 0, .int .i64 0, .int .i64 0, .bool false, .int .i64 0, .int .i64 0] 50 (0, 0)) from by first | exact (blk_below (g := gb166) (o := .cells #[.int .i64 0, .int .i64 0, .int .i64 0, .int .i64 0, .int .i64 0, .int .i64 0, .int .i64 0, .bool false, .int .i64 0, .int .i64 0] 50 (0, 0)) (by (with_reducible repeat (first | refine blk_drewN ?_ _ | refine blk_drew ?_ | refine blk_alloc ?_ _)); exact (Q_BK166 h0_)) hb))
     have z_HI169_e3 := fun (h0_ : b 3 = true) (h1_ : b 6 = false) => (show IsS115 w w14 g169 t167 t182 from by first | exact (IsS115.below (by repeat (first | (with_reducible first | exact (Q_HI169_e3 h0_ h1_) | apply IsS115.alloc | apply IsS115.drewN | apply IsS115.drew | apply IsS115.set_1 | refine IsS115.far ?_ NB169_166.out _) | exact (Q_HI169_e3 h0_ h1_))) hb))
     have z_HI169_e6 := fun (h0_ : b 6 = true) => (show IsS115 w w14 g169 t167 t187 from by first | exact (IsS115.below (by repeat (first | (with_reducible first | exact (Q_HI169_e6 h0_) | apply IsS115.alloc | apply IsS115.drewN | apply IsS115.drew | apply IsS115.set_1 | refine IsS115.far ?_ NB169_166.out _) | exact (Q_HI169_e6 h0_))) hb))
     have z_BK166_e9 := fun (h0_ : b 9 = true) => (show w14.heap[gb166]? = some (.cells #[.int .i64 t170, .int .i64 t171, .int .i64 t172, .int .i64 t173, .int .i64 t174, .int .i64 t175, .int .i64 t176, .bool t177, .int .i64 t178, .int .i64 t179] 50 (0, 0)) from by first | exact (blk_below (g := gb166) (o := .cells #[.int .i64 t170, .int .i64 t171, .int .i64 t172, .int .i64 t173, .int .i64 t174, .int .i64 t175, .int .i64 t176, .bool t177, .int .i64 t178, .int .i64 t179] 50 (0, 0)) (by (with_reducible repeat (first | refine blk_drewN ?_ _ | refine blk_drew ?_ | refine blk_alloc ?_ _)); exact (Q_BK166_e9 h0_)) hb))
     clear HB
     have HO185 := n0_
     have HB := n3_
     clear n0_ n3_
     clear hb ho15
     obtain ⟨Ao16, co16, eo16⟩ := Kd.R_slice HO185.out
     subst eo16
     obtain ⟨ado16, fo16, _⟩ := Kd.at_int (Kd.R_reads' HO185.out).2.2 0 (by decide) (by rw [Ny183.out]; simp)
     cases fo16
     refine hK.out _ _ ⟨.slice (some ado16) y183.length co16, ado16, m7_, (by rw [ha.out]; exact putSel_upk 2 hb_ rfl rfl rfl), z_BK166, fun h0_ => absurd ((hon 1 (by kernel_rfl)).symm.trans h0_) (by decide), (by repeat (first | (with_reducible first | exact HB.out | apply below_alloc | apply pw_below_drewN | apply below_drew1 | refine below_set ?_ GE166.out) | exact HB.out)), fun _ h1_ => absurd ((hon 3 (by kernel_rfl)).symm.trans h1_) (by decide), z_HI169_e3, fun _ => (by (with_reducible repeat (first | apply Kd.R_alloc | apply Kd.R_drewN | apply Kd.R_drew)); exact HO185.out), fun _ => ⟨_, rfl⟩, z_HI169_e6, z_BK166_e9, fun h0_ => absurd ((hoff 7 (by kernel_rfl)).symm.trans h0_) (by decide)⟩
    refine steps_cons ?_ ?_
    ·rintro b a w' ⟨v184, adz_v184, m7_, ha, Q_BK166, Q_HI169, Q_HB, Q_HI169_e1, Q_HI169_e3, Q_HO185, Q_HA_HO185, Q_HI169_e6, Q_BK166_e9, Q_X7_⟩ hb_ hon hoff
     refine ⟨_, rfl, fun K hK => ?_⟩
     have e12 : a.tmps[12]? = some (.pointer (some ⟨g169, 0, none⟩)) := by rw [ha]; exact (putSel_off rfl).trans rfl
     replace ha := Aside0.mk ha
     have BK166 := Aside0.mk (Q_BK166 (hoff 9 (by kernel_rfl)))
     have HB := Aside0.mk Q_HB
     have HI169 := Aside0.mk (Q_HI169_e3 (hon 3 (by kernel_rfl)) hb_)
     refine goes_ Try.func74 (by kernel_rfl) rfl #[.pointer (some ⟨g169, 0, none⟩), .int .i64 8] (by rfl) rfl rfl (by first | (simp only [List.map_toArray, List.map_cons, List.map_nil, Act.eval, Array.getD_eq_getD_getElem?, Option.getD_some, e12]; done) | (simp only [List.map_toArray, List.map_cons, List.map_nil, Act.eval, Array.getD_eq_getD_getElem?, Option.getD_some, e12]; rfl)) ?_
     with_reducible refine (spec_l20Rd_pick.calls k g169 t167 t182 8 t186 t187 w _ ?side1 ?side2 A5.out).mono ?_
     (case side1 => repeat (first | (with_reducible first | exact HI169.out | apply IsS115.alloc | apply IsS115.drewN | apply IsS115.drew | apply IsS115.set_1 | refine IsS115.far ?_ NB169_166.out _) | exact HI169.out))
     (case side2 => repeat (first | (with_reducible first | exact HB.out | apply below_alloc | apply pw_below_drewN | apply below_drew1 | refine below_set ?_ (IsS115.ge HI169.out) | refine below_set ?_ GE166.out) | exact HB.out))
     rintro e w14 ⟨rfl, hi, hb, hk⟩
     refine ⟨_, rfl, ?_⟩
     have n0_ := Aside0.mk (KeepBut.blk hk (g' := gb166) (o := .cells #[.int .i64 0, .int .i64 0, .int .i64 0, .int .i64 0, .int .i64 0, .int .i64 0, .int .i64 0, .bool false, .int .i64 0, .int .i64 0] 50 (0, 0)) (by (with_reducible repeat (first | refine blk_drewN ?_ _ | refine blk_drew ?_ | refine blk_alloc ?_ _)); exact BK166.out) NB166_169.out (by simp))
     have n1_ := Aside0.mk (hb)
     have n2_ := Aside0.mk (hi)
     have z_HO185 := fun (h0_ : b 4 = true) => (show Kd.R (Kd.int .i64) 3 w14 w.heap.size (fun _ => True) v184 y183 from by first | exact (Kd.R_mono (Kd.R_keep (IsS115.apart (show IsS115 w _ g169 t167 t182 from by repeat (first | (with_reducible first | exact HI169.out | apply IsS115.alloc | apply IsS115.drewN | apply IsS115.drew | apply IsS115.set_1 | refine IsS115.far ?_ NB169_166.out _) | exact HI169.out)) (by (with_reducible repeat (first | apply Kd.R_alloc | apply Kd.R_drewN | apply Kd.R_drew)); exact (Q_HO185 h0_)) (by decide)) hk (fun _ h => h.2)) (fun _ h => h.1)) | exact Kd.R_mono (Kd.R_mono (Kd.R_keep (IsS115.apart (show IsS115 w _ g169 t167 t182 from by repeat (first | (with_reducible first | exact HI169.out | apply IsS115.alloc | apply IsS115.drewN | apply IsS115.drew | apply IsS115.set_1 | refine IsS115.far ?_ NB169_166.out _) | exact HI169.out)) (by (with_reducible repeat (first | apply Kd.R_alloc | apply Kd.R_drewN | apply Kd.R_drew)); exact (Q_HO185 h0_)) (by decide)) hk (fun _ h => h.2)) (fun _ h => h.1)) (fun _ h_ => by first | trivial | exact h_ | exact h_.1))
     clear BK166
     clear HB
     clear HI169
     have BK166 := n0_
     have HB := n1_
     have HI169 := n2_
     clear n0_ n1_ n2_
     (try clear hb)
     (try clear hb2)
     (try clear hk)
     (try clear hi)
     refine hK.out _ _ ⟨v184, adz_v184, m7_, (by rw [ha.out]; exact putSel_upk 3 hb_ rfl rfl rfl), fun _ => (by (with_reducible repeat (first | refine blk_drewN ?_ _ | refine blk_drew ?_ | refine blk_alloc ?_ _)); exact BK166.out), fun h0_ => absurd ((hon 1 (by kernel_rfl)).symm.trans h0_) (by decide), (by repeat (first | (with_reducible first | exact HB.out | apply below_alloc | apply pw_below_drewN | apply below_drew1 | refine below_set ?_ (IsS115.ge HI169.out) | refine below_set ?_ GE166.out) | exact HB.out)), fun _ h1_ => absurd ((hon 3 (by kernel_rfl)).symm.trans h1_) (by decide), fun _ h1_ => absurd ((up_self b 6).symm.trans h1_) (by decide), z_HO185, Q_HA_HO185, fun _ => (by repeat (first | (with_reducible first | exact HI169.out | apply IsS115.alloc | apply IsS115.drewN | apply IsS115.drew | apply IsS115.set_1 | refine IsS115.far ?_ NB169_166.out _) | exact HI169.out)), fun h0_ => absurd ((hoff 9 (by kernel_rfl)).symm.trans h0_) (by decide), fun h0_ => absurd ((hoff 7 (by kernel_rfl)).symm.trans h0_) (by decide)⟩
    refine steps_cons ?_ ?_
    ·rintro b a w' ⟨v184, adz_v184, m7_, ha, Q_BK166, Q_HI169, Q_HB, Q_HI169_e1, Q_HI169_e3, Q_HO185, Q_HA_HO185, Q_HI169_e6, Q_BK166_e9, Q_X7_⟩ hb_ hon hoff
     refine ⟨_, rfl, fun K hK => ?_⟩
     have e11 : a.tmps[11]? = some (v184) := by rw [ha]; exact putSel_on (e := (4, 11, v184)) 2 rfl rfl (hon 4 (by kernel_rfl)) rfl
     have e13 : a.tmps[13]? = some (.int .i64 t186) := by rw [ha]; exact putSel_on (e := (6, 13, .int .i64 t186)) 3 rfl rfl (hon 6 (by kernel_rfl)) rfl
     replace ha := Aside0.mk ha
     have HB := Aside0.mk Q_HB
     have HO185 := Aside0.mk (Q_HO185 (hon 4 (by kernel_rfl)))
     have HA_HO185 := Aside0.mk (Q_HA_HO185 (hon 4 (by kernel_rfl)))
     have HI169 := Aside0.mk (Q_HI169_e6 (hon 6 (by kernel_rfl)))
     obtain ⟨c_, hv_⟩ := HA_HO185.out
     rw [hv_] at e11
     refine value_ (w1 := w') (v := .pointer (some (adz_v184.add (t186).toNat))) (by rfl) rfl ?_ ?_
     ·go_simp
      (try simp only [i64_w])
      try rfl
     refine hK.out _ _ ⟨v184, adz_v184, (.pointer (some (adz_v184.add (t186).toNat))), (by rw [ha.out]; exact putSel_upk 4 hb_ rfl rfl rfl), Q_BK166, fun h0_ => absurd ((hon 1 (by kernel_rfl)).symm.trans h0_) (by decide), Q_HB, fun _ h1_ => absurd ((hon 3 (by kernel_rfl)).symm.trans h1_) (by decide), fun _ h1_ => absurd ((hon 6 (by kernel_rfl)).symm.trans h1_) (by decide), Q_HO185, Q_HA_HO185, Q_HI169_e6, Q_BK166_e9, fun _ => rfl⟩
    refine steps_cons ?_ ?_
    ·rintro b a w' ⟨v184, adz_v184, m7_, ha, Q_BK166, Q_HI169, Q_HB, Q_HI169_e1, Q_HI169_e3, Q_HO185, Q_HA_HO185, Q_HI169_e6, Q_BK166_e9, Q_X7_⟩ hb_ hon hoff
     refine ⟨_, rfl, fun K hK => ?_⟩
     have e14 : a.tmps[14]? = some (m7_) := by rw [ha]; exact putSel_on (e := (7, 14, m7_)) 4 rfl rfl (hon 7 (by kernel_rfl)) rfl
     rw [Q_X7_ (hon 7 (by kernel_rfl))] at e14
     replace ha := Aside0.mk ha
     have HB := Aside0.mk Q_HB
     have HO185 := Aside0.mk (Q_HO185 (hon 4 (by kernel_rfl)))
     have HA_HO185 := Aside0.mk (Q_HA_HO185 (hon 4 (by kernel_rfl)))
     have HI169 := Aside0.mk (Q_HI169_e6 (hon 6 (by kernel_rfl)))
     obtain ⟨c_, hv_⟩ := HA_HO185.out
     have hF_ := HO185.out
     rw [hv_] at hF_
     obtain ⟨ad_, ea_, hx_⟩ := Kd.at_int (Kd.R_reads' hF_).2.2 t186 (of_eq_true pi188) (of_eq_true qi188)
     cases ea_
     refine value_ (w1 := w') (v := .int .i64 (rd y183 t186)) (by rfl) rfl ?_ ?_
     ·go_simp
      (try simp only [i64_w])
      try rfl
     refine hK.out _ _ ⟨v184, adz_v184, m7_, (by rw [ha.out]; exact putSel_upk 5 hb_ rfl rfl rfl), Q_BK166, fun h0_ => absurd ((hon 1 (by kernel_rfl)).symm.trans h0_) (by decide), Q_HB, fun _ h1_ => absurd ((hon 3 (by kernel_rfl)).symm.trans h1_) (by decide), fun _ h1_ => absurd ((hon 6 (by kernel_rfl)).symm.trans h1_) (by decide), Q_HO185, Q_HA_HO185, Q_HI169_e6, Q_BK166_e9, Q_X7_⟩
    refine steps_cons ?_ ?_
    ·rintro b a w' ⟨v184, adz_v184, m7_, ha, Q_BK166, Q_HI169, Q_HB, Q_HI169_e1, Q_HI169_e3, Q_HO185, Q_HA_HO185, Q_HI169_e6, Q_BK166_e9, Q_X7_⟩ hb_ hon hoff
     refine ⟨_, rfl, fun K hK => ?_⟩
     have e2 : a.tmps[2]? = some (.pointer (some ⟨gb166, 0, none⟩)) := by rw [ha]; exact (putSel_off rfl).trans rfl
     have e8 : a.tmps[8]? = some (.agg #[.int .i64 t170, .int .i64 t171, .int .i64 t172, .int .i64 t173, .int .i64 t174, .int .i64 t175, .int .i64 t176, .bool t177, .int .i64 t178, .int .i64 t179]) := by rw [ha]; exact putSel_on (e := (1, 8, .agg #[.int .i64 t170, .int .i64 t171, .int .i64 t172, .int .i64 t173, .int .i64 t174, .int .i64 t175, .int .i64 t176, .bool t177, .int .i64 t178, .int .i64 t179])) 0 rfl rfl (hon 1 (by kernel_rfl)) rfl
     replace ha := Aside0.mk ha
     have BK166 := Aside0.mk (Q_BK166 hb_)
     have HB := Aside0.mk Q_HB
     have HI169 := Aside0.mk (Q_HI169_e6 (hon 6 (by kernel_rfl)))
     have hs15 : w'.cell? ⟨gb166, 0, none⟩ = some (.int .i64 0) := (blk_cell BK166.out 0).trans rfl
     have hfs15 := blk_frozen BK166.out 0
     have hs16 : w'.cell? ⟨gb166, 1, none⟩ = some (.int .i64 0) := (blk_cell BK166.out 1).trans rfl
     have hfs16 := blk_frozen BK166.out 1
     have hs17 : w'.cell? ⟨gb166, 2, none⟩ = some (.int .i64 0) := (blk_cell BK166.out 2).trans rfl
     have hfs17 := blk_frozen BK166.out 2
     have hs18 : w'.cell? ⟨gb166, 3, none⟩ = some (.int .i64 0) := (blk_cell BK166.out 3).trans rfl
     have hfs18 := blk_frozen BK166.out 3
     have hs19 : w'.cell? ⟨gb166, 4, none⟩ = some (.int .i64 0) := (blk_cell BK166.out 4).trans rfl
     have hfs19 := blk_frozen BK166.out 4
     have hs20 : w'.cell? ⟨gb166, 5, none⟩ = some (.int .i64 0) := (blk_cell BK166.out 5).trans rfl
     have hfs20 := blk_frozen BK166.out 5
     have hs21 : w'.cell? ⟨gb166, 6, none⟩ = some (.int .i64 0) := (blk_cell BK166.out 6).trans rfl
     have hfs21 := blk_frozen BK166.out 6
     have hs22 : w'.cell? ⟨gb166, 7, none⟩ = some (.bool false) := (blk_cell BK166.out 7).trans rfl
     have hfs22 := blk_frozen BK166.out 7
     have hs23 : w'.cell? ⟨gb166, 8, none⟩ = some (.int .i64 0) := (blk_cell BK166.out 8).trans rfl
     have hfs23 := blk_frozen BK166.out 8
     have hs24 : w'.cell? ⟨gb166, 9, none⟩ = some (.int .i64 0) := (blk_cell BK166.out 9).trans rfl
     have hfs24 := blk_frozen BK166.out 9
     refine skip_ (w1 := ?_) (by rfl) rfl ?_ ?_
     rotate_left
     ·go_simp
      rfl
     refine hK.out _ _ ⟨v184, adz_v184, m7_, (by rw [ha.out]; exact putSel_none (v := undef) rfl), fun h0_ => absurd ((up_self b 9).symm.trans h0_) (by decide), fun h0_ => absurd ((hon 1 (by kernel_rfl)).symm.trans h0_) (by decide), (by repeat (first | (with_reducible first | exact HB.out | apply below_alloc | apply pw_below_drewN | apply below_drew1 | refine below_set ?_ (IsS115.ge HI169.out) | refine below_set ?_ GE166.out) | exact HB.out)), fun _ h1_ => absurd ((hon 3 (by kernel_rfl)).symm.trans h1_) (by decide), fun _ h1_ => absurd ((hon 6 (by kernel_rfl)).symm.trans h1_) (by decide), fun h0_ => (by (with_reducible repeat (first | apply Kd.R_alloc | apply Kd.R_drewN | apply Kd.R_drew)); exact Kd.R_mono (Kd.R_far (p := ⟨gb166, 9, none⟩) (Kd.R_far (p := ⟨gb166, 8, none⟩) (Kd.R_far (p := ⟨gb166, 7, none⟩) (Kd.R_far (p := ⟨gb166, 6, none⟩) (Kd.R_far (p := ⟨gb166, 5, none⟩) (Kd.R_far (p := ⟨gb166, 4, none⟩) (Kd.R_far (p := ⟨gb166, 3, none⟩) (Kd.R_far (p := ⟨gb166, 2, none⟩) (Kd.R_far (p := ⟨gb166, 1, none⟩) (Kd.R_far (p := ⟨gb166, 0, none⟩) (Kd.R_types (Q_HO185 h0_) BK166.out (by decide)) (fun _ hk => by first | exact hk.2 | trivial) (.int .i64 t170)) (fun _ hk => by first | exact hk.2 | trivial) (.int .i64 t171)) (fun _ hk => by first | exact hk.2 | trivial) (.int .i64 t172)) (fun _ hk => by first | exact hk.2 | trivial) (.int .i64 t173)) (fun _ hk => by first | exact hk.2 | trivial) (.int .i64 t174)) (fun _ hk => by first | exact hk.2 | trivial) (.int .i64 t175)) (fun _ hk => by first | exact hk.2 | trivial) (.int .i64 t176)) (fun _ hk => by first | exact hk.2 | trivial) (.bool t177)) (fun _ hk => by first | exact hk.2 | trivial) (.int .i64 t178)) (fun _ hk => by first | exact hk.2 | trivial) (.int .i64 t179)) (fun _ hk => trivial)), Q_HA_HO185, fun _ => (by repeat (first | (with_reducible first | exact HI169.out | apply IsS115.alloc | apply IsS115.drewN | apply IsS115.drew | apply IsS115.set_1 | refine IsS115.far ?_ NB169_166.out _) | exact HI169.out)), fun _ => (by (with_reducible repeat (first | refine blk_drewN ?_ _ | refine blk_drew ?_ | refine blk_alloc ?_ _)); refine blk_put (cs := #[.int .i64 t170, .int .i64 t171, .int .i64 t172, .int .i64 t173, .int .i64 t174, .int .i64 t175, .int .i64 t176, .bool t177, .int .i64 t178, .int .i64 0]) ?_ 9 _ rfl; (with_reducible repeat (first | refine blk_drewN ?_ _ | refine blk_drew ?_ | refine blk_alloc ?_ _)); refine blk_put (cs := #[.int .i64 t170, .int .i64 t171, .int .i64 t172, .int .i64 t173, .int .i64 t174, .int .i64 t175, .int .i64 t176, .bool t177, .int .i64 0, .int .i64 0]) ?_ 8 _ rfl; (with_reducible repeat (first | refine blk_drewN ?_ _ | refine blk_drew ?_ | refine blk_alloc ?_ _)); refine blk_put (cs := #[.int .i64 t170, .int .i64 t171, .int .i64 t172, .int .i64 t173, .int .i64 t174, .int .i64 t175, .int .i64 t176, .bool false, .int .i64 0, .int .i64 0]) ?_ 7 _ rfl; (with_reducible repeat (first | refine blk_drewN ?_ _ | refine blk_drew ?_ | refine blk_alloc ?_ _)); refine blk_put (cs := #[.int .i64 t170, .int .i64 t171, .int .i64 t172, .int .i64 t173, .int .i64 t174, .int .i64 t175, .int .i64 0, .bool false, .int .i64 0, .int .i64 0]) ?_ 6 _ rfl; (with_reducible repeat (first | refine blk_drewN ?_ _ | refine blk_drew ?_ | refine blk_alloc ?_ _)); refine blk_put (cs := #[.int .i64 t170, .int .i64 t171, .int .i64 t172, .int .i64 t173, .int .i64 t174, .int .i64 0, .int .i64 0, .bool false, .int .i64 0, .int .i64 0]) ?_ 5 _ rfl; (with_reducible repeat (first | refine blk_drewN ?_ _ | refine blk_drew ?_ | refine blk_alloc ?_ _)); refine blk_put (cs := #[.int .i64 t170, .int .i64 t171, .int .i64 t172, .int .i64 t173, .int .i64 0, .int .i64 0, .int .i64 0, .bool false, .int .i64 0, .int .i64 0]) ?_ 4 _ rfl; (with_reducible repeat (first | refine blk_drewN ?_ _ | refine blk_drew ?_ | refine blk_alloc ?_ _)); refine blk_put (cs := #[.int .i64 t170, .int .i64 t171, .int .i64 t172, .int .i64 0, .int .i64 0, .int .i64 0, .int .i64 0, .bool false, .int .i64 0, .int .i64 0]) ?_ 3 _ rfl; (with_reducible repeat (first | refine blk_drewN ?_ _ | refine blk_drew ?_ | refine blk_alloc ?_ _)); refine blk_put (cs := #[.int .i64 t170, .int .i64 t171, .int .i64 0, .int .i64 0, .int .i64 0, .int .i64 0, .int .i64 0, .bool false, .int .i64 0, .int .i64 0]) ?_ 2 _ rfl; (with_reducible repeat (first | refine blk_drewN ?_ _ | refine blk_drew ?_ | refine blk_alloc ?_ _)); refine blk_put (cs := #[.int .i64 t170, .int .i64 0, .int .i64 0, .int .i64 0, .int .i64 0, .int .i64 0, .int .i64 0, .bool false, .int .i64 0, .int .i64 0]) ?_ 1 _ rfl; (with_reducible repeat (first | refine blk_drewN ?_ _ | refine blk_drew ?_ | refine blk_alloc ?_ _)); refine blk_put (cs := #[.int .i64 0, .int .i64 0, .int .i64 0, .int .i64 0, .int .i64 0, .int .i64 0, .int .i64 0, .bool false, .int .i64 0, .int .i64 0]) ?_ 0 _ rfl; (with_reducible repeat (first | refine blk_drewN ?_ _ | refine blk_drew ?_ | refine blk_alloc ?_ _)); exact BK166.out), Q_X7_⟩
    refine steps_cons ?_ ?_
    ·rintro b a w' ⟨v184, adz_v184, m7_, ha, Q_BK166, Q_HI169, Q_HB, Q_HI169_e1, Q_HI169_e3, Q_HO185, Q_HA_HO185, Q_HI169_e6, Q_BK166_e9, Q_X7_⟩ hb_ hon hoff
     refine ⟨_, rfl, fun K hK => ?_⟩
     have e15 : a.tmps[15]? = some (.int .i64 (rd y183 t186)) := by rw [ha]; exact putSel_on (e := (8, 15, .int .i64 (rd y183 t186))) 5 rfl rfl (hon 8 (by kernel_rfl)) rfl
     replace ha := Aside0.mk ha
     have HB := Aside0.mk Q_HB
     have HO185 := Aside0.mk (Q_HO185 (hon 4 (by kernel_rfl)))
     have HA_HO185 := Aside0.mk (Q_HA_HO185 (hon 4 (by kernel_rfl)))
     have HI169 := Aside0.mk (Q_HI169_e6 (hon 6 (by kernel_rfl)))
     have BK166 := Aside0.mk (Q_BK166_e9 (hon 9 (by kernel_rfl)))
     refine value_ (w1 := w') (v := .int .i64 (rd y183 t186)) (by rfl) rfl ?_ ?_
     ·go_simp
      (try simp only [i64_w])
      try rfl
     refine hK.out _ _ ⟨v184, adz_v184, m7_, (by rw [ha.out]; exact putSel_upk 6 hb_ rfl rfl rfl), fun h0_ => absurd ((hon 9 (by kernel_rfl)).symm.trans h0_) (by decide), fun h0_ => absurd ((hon 1 (by kernel_rfl)).symm.trans h0_) (by decide), Q_HB, fun _ h1_ => absurd ((hon 3 (by kernel_rfl)).symm.trans h1_) (by decide), fun _ h1_ => absurd ((hon 6 (by kernel_rfl)).symm.trans h1_) (by decide), Q_HO185, Q_HA_HO185, Q_HI169_e6, Q_BK166_e9, Q_X7_⟩
    exact steps_nil
   rintro b a w27 hall ⟨v184, adz_v184, m7_, ha, Q_BK166, Q_HI169, Q_HB, Q_HI169_e1, Q_HI169_e3, Q_HO185, Q_HA_HO185, Q_HI169_e6, Q_BK166_e9, Q_X7_⟩
   clear BK166 HB HI169
   have hb1_ := hall 1 (by kernel_rfl)
   have hb3_ := hall 3 (by kernel_rfl)
   have hb4_ := hall 4 (by kernel_rfl)
   have hb6_ := hall 6 (by kernel_rfl)
   have hb7_ := hall 7 (by kernel_rfl)
   have hb8_ := hall 8 (by kernel_rfl)
   have hb9_ := hall 9 (by kernel_rfl)
   have hb10_ := hall 10 (by kernel_rfl)
   subst ha
   obtain rfl := Q_X7_ hb7_
   simp only [putSel, hb1_, hb3_, hb4_, hb6_, hb7_, hb8_, hb9_, hb10_, if_true, Act.put, List.setIfInBounds_toArray, List.set_cons_zero, List.set_cons_succ]
   clear Q_BK166
   clear Q_HI169
   have HB := Aside0.mk Q_HB
   clear Q_HB
   clear Q_HI169_e1
   clear Q_HI169_e3
   have HO185 := Aside0.mk (Q_HO185 hb4_)
   clear Q_HO185
   have HA_HO185 := Aside0.mk (Q_HA_HO185 hb4_)
   clear Q_HA_HO185
   have HI169 := Aside0.mk (Q_HI169_e6 hb6_)
   clear Q_HI169_e6
   have BK166 := Aside0.mk (Q_BK166_e9 hb9_)
   clear Q_BK166_e9
   clear hall hb1_ hb3_ hb4_ hb6_ hb7_ hb8_ hb9_ hb10_
   obtain ⟨co28, eo28⟩ := HA_HO185.out
   clear HA_HO185
   subst eo28
   try go_wp2
   refine bodyPost_ret (results_ct rfl _ _ gb166 50 #[.int .i64 t170, .int .i64 t171, .int .i64 t172, .int .i64 t173, .int .i64 t174, .int .i64 t175, .int .i64 t176, .bool t177, .int .i64 t178, .int .i64 t179] (0, 0) _ rfl (by (with_reducible repeat (first | refine blk_drewN ?_ _ | refine blk_drew ?_ | refine blk_alloc ?_ _)); exact BK166.out) Try.underlying50 rfl (by kernel_rfl)) rfl ?_
   exact ⟨by first | rfl | (simp [errW_none, errW_some] <;> rfl) | (simp [*, errW_none, errW_some] <;> rfl), by repeat (first | (with_reducible first | exact HB.out | apply below_alloc | apply pw_below_drewN | apply below_drew1 | refine below_set ?_ (IsS115.ge HI169.out) | refine below_set ?_ GE166.out) | exact HB.out)⟩
  ·rw [if_neg c7] at H
   exact absurd H (by simp)
 ·rw [if_neg c6] at H
  exact absurd H (by simp)

/-! ### impl_in: function 69 -/
def impl_in.f (a0 : Int) (a1 : Int) (a2 : Int) : Option (Bool) := if a0 ≥ a1 then (some (decide (a0 ≤ a2))) else (some false)
set_option maxHeartbeats 8000000 in
set_option maxRecDepth 100000 in
theorem impl_in.calls (a0 : Int) (a1 : Int) (a2 : Int) (r : Bool) (w : World) (h : impl_in.f a0 a1 a2 = some r) :
  Calls Try.prog 69 #[.int .i64 a0, .int .i64 a1, .int .i64 a2] w fun e w' => e = .returned (.bool r) ∧ Drawn0 w w' := by
 have H : (if a0 ≥ a1 then (some (decide (a0 ≤ a2))) else (some false)) = some r := h
 clear h
 by_cases c4 : a0 ≥ a1
 ·rw [if_pos c4] at H
  have c4b0 : decide (a1 ≤ a0) = true := decide_eq_true c4
  clear c4
  obtain rfl := Option.some.inj H
  go_enter Try.func69, Try.ntmps69
  go_wp2
  go_ret
  exact ⟨by first | rfl | (simp; done) | (simp [*]; done), by repeat (first | exact Drawn0.refl _ | apply Drawn0.step)⟩
 ·rw [if_neg c4] at H
  have c4b0 : decide (a1 ≤ a0) = false := decide_eq_false c4
  clear c4
  obtain rfl := Option.some.inj H
  go_enter Try.func69, Try.ntmps69
  go_wp2
  go_ret
  exact ⟨by first | rfl | (simp; done) | (simp [*]; done), by repeat (first | exact Drawn0.refl _ | apply Drawn0.step)⟩

/-! ### impl_tells: function 75 -/
def impl_tells.f (a0 : Int) : Option (Bool) := (impl_in.f a0 1 4).bind fun t189 => (some t189)
set_option maxHeartbeats 8000000 in
set_option maxRecDepth 100000 in
theorem impl_tells.calls (a0 : Int) (r : Bool) (w : World) (h : impl_tells.f a0 = some r) :
  Calls Try.prog 75 #[.int .i64 a0] w fun e w' => e = .returned (.bool r) ∧ Drawn0 w w' := by
 have H : ((impl_in.f a0 1 4).bind fun t189 => (some t189)) = some r := h
 clear h
 replace H := Option.bind_eq_some_iff.mp H
 obtain ⟨t189, A20, H⟩ := H
 replace H : (some t189) = some r := H
 have A2 := Aside0.mk A20
 clear A20
 obtain rfl := Option.some.inj H
 go_enter Try.func75, Try.ntmps75
 go_wp2_with (first | ((with_reducible refine gate_callee (f := 69) rfl ?_); refine goesL_ (some 4) rfl rfl Try.func69 (by kernel_rfl) rfl #[.int .i64 a0, .int .i64 1, .int .i64 4] rfl (by (try simp only [List.map_toArray, List.map_cons, List.map_nil]); first | done | rfl | (simp only [List.length_drop, List.length_take]; rfl)) ?_; (with_reducible refine (impl_in.calls a0 1 4 t189 _ A2.out).mono ?_); rintro e w' ⟨rfl, ⟨nd, rfl⟩⟩; refine ⟨_, rfl, ?_⟩))
 go_ret
 exact ⟨by first | rfl | (simp; done) | (simp [*]; done), by repeat (first | exact Drawn0.refl _ | apply Drawn0.step)⟩

end Go.Proofs.Ytkmckalckafloaa.PFnWinStep
-- thin
