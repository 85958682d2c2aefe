/- Functions of the program as Lean functions, with their contracts, written by a program of mine over the kit's printer and in part by hand. No condition of its own. -/
import Derived.Test.YtkmckalckafloaaQFnWinStepx0
import Derived.Test.YtkmckalckafloaaQFnWinStepx5
import Derived.Test.YtkmckalckafloaaQFnWinStepx6
import Derived.Test.YtkmckalckafloaaQFnWinStepx7
import Derived.Test.YtkmckalckafloaaQFnWinStepx8
import Derived.Test.YtkmckalckafloaaQFnWinStepx9
namespace Go.Proofs.Ytkmckalckafloaa.PFnWinStep
open Go.RowKit Go.Proofs.YtkmckalckafloaaW.PrintWords Go.Proofs.YtkmckalckafloaaW.PrintLast Go.Proofs.YtkmckalckafloaaW.PrintMore
attribute [local go_sem] max2_int min2_int max_two min_two max_three min_three max_four min_four   -- for this text's walks alone
set_option linter.unusedVariables false
set_option linter.unusedSimpArgs false

/-! ### laws_FnWinStep: function 7 -/
def laws_FnWinStep.j0 : Nat → Int → Bool → Int → Int → Int → Int → Int → Int → Int → Bool → Int → Int → Option (Bool)
 | 0, _, _, _, _, _, _, _, _, _, _, _, _ => none
 | k + 1, x4, x34, x236000, x236001, x236002, x236003, x236004, x236005, x236006, x236007, x236008, x236009 => if x34 = true then ((impl_WinOf.f k x236000 x236001 x236002 x236003 x236004 x236005 x236006 x236007 x236008 x236009 x4).bind fun t239 => (if (t239.length : Int) = 0 then ((laws_frOk.f).bind fun t242 => (some t242)) else (some false))) else ((impl_WinOf.f k x236000 x236001 1 x236003 0 x236005 x236006 x236007 x236008 x236009 x4).bind fun t246 => ((impl_WinOf.f k x236000 x236001 2 x236003 x236003 x236005 x236006 x236007 x236008 x236009 x4).bind fun t249 => ((impl_WinOf.f k x236000 x236001 3 x236003 0 x236005 x236006 x236007 x236008 x236009 x4).bind fun t252 => (if (t246.length : Int) = 1 then ((laws_frWins.f k t246 t249).bind fun t255 => (if t255 = true then (if (t252.length : Int) = 1 then (if 0 < (t246.length : Int) then (if 0 < (t252.length : Int) then ((impl_WinTouch.f ((rd_T34 t246 0).f0) ((rd_T34 t246 0).f1) ((rd_T34 t252 0).f0) ((rd_T34 t252 0).f1)).bind fun t258 => (if t258 = true then (some (((rd_T34 t252 0).f0) == x4)) else (some false))) else (none)) else (none)) else (some false)) else (some false))) else (some false)))))
def laws_FnWinStep.f (k : Nat) (l0 : List Int) : Option (Bool) := if (l0.length : Int) > 1048576 then (some true) else ((spec_DrawWinOf.f k l0).bind fun bt224 => ((impl_JobOk.f k bt224.1 bt224.2.1 bt224.2.2.1 bt224.2.2.2.1 bt224.2.2.2.2.1 bt224.2.2.2.2.2.1 bt224.2.2.2.2.2.2.1 bt224.2.2.2.2.2.2.2.1 bt224.2.2.2.2.2.2.2.2.1 bt224.2.2.2.2.2.2.2.2.2.1).bind fun t236 => ((spec_JobOk.f k bt224.1 bt224.2.1 bt224.2.2.1 bt224.2.2.2.1 bt224.2.2.2.2.1 bt224.2.2.2.2.2.1 bt224.2.2.2.2.2.2.1 bt224.2.2.2.2.2.2.2.1 bt224.2.2.2.2.2.2.2.2.1 bt224.2.2.2.2.2.2.2.2.2.1).bind fun t237 => (if (t236 != t237) = true then (some false) else ((spec_JobOk.f k bt224.1 bt224.2.1 bt224.2.2.1 bt224.2.2.2.1 bt224.2.2.2.2.1 bt224.2.2.2.2.2.1 bt224.2.2.2.2.2.2.1 bt224.2.2.2.2.2.2.2.1 bt224.2.2.2.2.2.2.2.2.1 bt224.2.2.2.2.2.2.2.2.2.1).bind fun t238 => (if t238 = true then (if bt224.2.2.2.2.2.2.2.2.2.2 < 0 then (laws_FnWinStep.j0 k bt224.2.2.2.2.2.2.2.2.2.2 true bt224.1 bt224.2.1 bt224.2.2.1 bt224.2.2.2.1 bt224.2.2.2.2.1 bt224.2.2.2.2.2.1 bt224.2.2.2.2.2.2.1 bt224.2.2.2.2.2.2.2.1 bt224.2.2.2.2.2.2.2.2.1 bt224.2.2.2.2.2.2.2.2.2.1) else (laws_FnWinStep.j0 k bt224.2.2.2.2.2.2.2.2.2.2 (decide (bt224.2.2.2.2.2.2.2.2.2.2 > 60)) bt224.1 bt224.2.1 bt224.2.2.1 bt224.2.2.2.1 bt224.2.2.2.2.1 bt224.2.2.2.2.2.1 bt224.2.2.2.2.2.2.1 bt224.2.2.2.2.2.2.2.1 bt224.2.2.2.2.2.2.2.2.1 bt224.2.2.2.2.2.2.2.2.2.1)) else (laws_FnWinStep.j0 k bt224.2.2.2.2.2.2.2.2.2.2 true bt224.1 bt224.2.1 bt224.2.2.1 bt224.2.2.2.1 bt224.2.2.2.2.1 bt224.2.2.2.2.2.1 bt224.2.2.2.2.2.2.1 bt224.2.2.2.2.2.2.2.1 bt224.2.2.2.2.2.2.2.2.1 bt224.2.2.2.2.2.2.2.2.2.1)))))))
theorem laws_FnWinStep.mono_l : ∀ k, (∀ y0 y1 y2 y3 y4 y5 y6 y7 y8 y9 y10 y11, LeO (laws_FnWinStep.j0 k y0 y1 y2 y3 y4 y5 y6 y7 y8 y9 y10 y11) (laws_FnWinStep.j0 (k + 1) y0 y1 y2 y3 y4 y5 y6 y7 y8 y9 y10 y11))
 | 0 => fun _ _ _ _ _ _ _ _ _ _ _ _ r h => by simp [laws_FnWinStep.j0] at h
 | k + 1 => by
  have ih0 := laws_FnWinStep.mono_l k
  ·intro y0 y1 y2 y3 y4 y5 y6 y7 y8 y9 y10 y11
   unfold laws_FnWinStep.j0
   repeat' first
   | (with_reducible exact ih0 _ _ _ _ _ _ _ _ _ _ _ _)
   | (with_reducible exact impl_JobOk.mono _ _ _ _ _ _ _ _ _ _ _)
   | (with_reducible exact impl_WinOf.mono _ _ _ _ _ _ _ _ _ _ _ _)
   | (with_reducible exact laws_frWins.mono _ _ _)
   | (with_reducible exact spec_DrawWinOf.mono _ _)
   | (with_reducible exact spec_JobOk.mono _ _ _ _ _ _ _ _ _ _ _)
   | (with_reducible exact LeO.refl _)
   | (with_reducible exact LeO.none _)
   | (with_reducible refine LeO.ite ?_ ?_)
   | (with_reducible refine LeO.bind ?_ (fun _ => ?_))
   | exact ih0 _ _ _ _ _ _ _ _ _ _ _ _
   | exact impl_JobOk.mono _ _ _ _ _ _ _ _ _ _ _
   | exact impl_WinOf.mono _ _ _ _ _ _ _ _ _ _ _ _
   | exact laws_frWins.mono _ _ _
   | exact spec_DrawWinOf.mono _ _
   | exact spec_JobOk.mono _ _ _ _ _ _ _ _ _ _ _
   | exact LeO.none _
   | refine LeO.ite ?_ ?_
   | refine LeO.bind ?_ (fun _ => ?_)
theorem laws_FnWinStep.mono : ∀ a0 k, LeO (laws_FnWinStep.f k a0) (laws_FnWinStep.f (k + 1) a0) := by
 intro a0 k
 have ih0 := laws_FnWinStep.mono_l k
 unfold laws_FnWinStep.f
 repeat' first
   | (with_reducible exact ih0 _ _ _ _ _ _ _ _ _ _ _ _)
   | (with_reducible exact impl_JobOk.mono _ _ _ _ _ _ _ _ _ _ _)
   | (with_reducible exact impl_WinOf.mono _ _ _ _ _ _ _ _ _ _ _ _)
   | (with_reducible exact laws_frWins.mono _ _ _)
   | (with_reducible exact spec_DrawWinOf.mono _ _)
   | (with_reducible exact spec_JobOk.mono _ _ _ _ _ _ _ _ _ _ _)
   | (with_reducible exact LeO.refl _)
   | (with_reducible exact LeO.none _)
   | (with_reducible refine LeO.ite ?_ ?_)
   | (with_reducible refine LeO.bind ?_ (fun _ => ?_))
   | exact ih0 _ _ _ _ _ _ _ _ _ _ _ _
   | exact impl_JobOk.mono _ _ _ _ _ _ _ _ _ _ _
   | exact impl_WinOf.mono _ _ _ _ _ _ _ _ _ _ _ _
   | exact laws_frWins.mono _ _ _
   | exact spec_DrawWinOf.mono _ _
   | exact spec_JobOk.mono _ _ _ _ _ _ _ _ _ _ _
   | exact LeO.none _
   | refine LeO.ite ?_ ?_
   | refine LeO.bind ?_ (fun _ => ?_)
def laws_FnWinStep.T8 : Bool × List (List Nat × List Nat) := (true, [([], []), ([], []), ([], []), ([], []), ([], []), ([], []), ([3, 0, 0, 3, 4, 5], [0, 3]), ([4, 1, 6, 0, 1, 3, 4, 5, 6], [1, 4]), ([5, 2, 7, 0, 1, 2, 3, 4, 5, 6, 7], [2, 5])])
def laws_FnWinStep.B8 : List Nat := [0, 0, 0, 0, 0, 0, 57, 123, 255]
theorem laws_FnWinStep.tab8 : rtab .any (opsOf Try.f7 8) = laws_FnWinStep.T8 := by kernel_rfl
theorem laws_FnWinStep.bits8 : waitsOk laws_FnWinStep.T8.2 laws_FnWinStep.B8 = true := by kernel_rfl
def laws_FnWinStep.T18 : Bool × List (List Nat × List Nat) := (true, [([], []), ([0], [0]), ([1], [1]), ([2], [2]), ([3], [3]), ([3], [3]), ([4, 5, 3, 3], [3, 4, 5]), ([3, 6], [3, 6]), ([7, 6], [7]), ([8], [8]), ([9, 8], [8, 9]), ([10, 8], [8, 10]), ([8, 11], [8, 11]), ([12, 8], [12]), ([13], [13]), ([14, 13], [13, 14]), ([15, 13], [13, 15]), ([13], [13]), ([17, 13], [13, 17]), ([18, 13], [13, 18]), ([16, 19, 13, 13], [13, 16, 19]), ([13, 20], [13, 20]), ([21, 20], [21]), ([22], [22]), ([23, 22], [22, 23]), ([24, 22], [22, 24]), ([25, 22], [22, 25]), ([22], [22]), ([26, 27, 22], [22, 26, 27]), ([22, 28], [22, 28]), ([29, 22, 0, 1, 2, 3, 4, 5, 6, 7, 8, 9, 10, 11, 12, 13, 14, 15, 16, 17, 18, 19, 20, 21, 22, 23, 24, 25, 26, 27, 28, 29], [29])])
def laws_FnWinStep.B18 : List Nat := [0, 1, 3, 7, 15, 15, 63, 127, 255, 511, 1023, 2047, 4095, 8191, 16383, 32767, 65535, 16383, 147455, 409599, 1048575, 2097151, 4194303, 8388607, 16777215, 33554431, 67108863, 8388607, 268435455, 536870911, 1073741823]
theorem laws_FnWinStep.tab18 : rtab .any (opsOf Try.f7 18) = laws_FnWinStep.T18 := by kernel_rfl
theorem laws_FnWinStep.bits18 : waitsOk laws_FnWinStep.T18.2 laws_FnWinStep.B18 = true := by kernel_rfl
/-- Ten stores, one behind the other: a struct of ten cells is written. -/
abbrev put10 (w : World) (g : Nat) (v0 v1 v2 v3 v4 v5 v6 v7 v8 v9 : Value) : World := (((((((((w.setCell ⟨g, 0, none⟩ v0).setCell ⟨g, 1, none⟩ v1).setCell ⟨g, 2, none⟩ v2).setCell ⟨g, 3, none⟩ v3).setCell ⟨g, 4, none⟩ v4).setCell ⟨g, 5, none⟩ v5).setCell ⟨g, 6, none⟩ v6).setCell ⟨g, 7, none⟩ v7).setCell ⟨g, 8, none⟩ v8).setCell ⟨g, 9, none⟩ v9
theorem put10_self {w : World} {g : Nat} {t : TypeId} {u0 u1 u2 u3 u4 u5 u6 u7 u8 u9 : Value} (h : w.heap[g]? = some (.cells #[u0, u1, u2, u3, u4, u5, u6, u7, u8, u9] t (0, 0))) (v0 v1 v2 v3 v4 v5 v6 v7 v8 v9 : Value) : (put10 w g v0 v1 v2 v3 v4 v5 v6 v7 v8 v9).heap[g]? = some (.cells #[v0, v1, v2, v3, v4, v5, v6, v7, v8, v9] t (0, 0)) := by
 have h0 := blk_put (cs' := #[v0, u1, u2, u3, u4, u5, u6, u7, u8, u9]) h 0 v0 rfl
 have h1 := blk_put (cs' := #[v0, v1, u2, u3, u4, u5, u6, u7, u8, u9]) h0 1 v1 rfl
 have h2 := blk_put (cs' := #[v0, v1, v2, u3, u4, u5, u6, u7, u8, u9]) h1 2 v2 rfl
 have h3 := blk_put (cs' := #[v0, v1, v2, v3, u4, u5, u6, u7, u8, u9]) h2 3 v3 rfl
 have h4 := blk_put (cs' := #[v0, v1, v2, v3, v4, u5, u6, u7, u8, u9]) h3 4 v4 rfl
 have h5 := blk_put (cs' := #[v0, v1, v2, v3, v4, v5, u6, u7, u8, u9]) h4 5 v5 rfl
 have h6 := blk_put (cs' := #[v0, v1, v2, v3, v4, v5, v6, u7, u8, u9]) h5 6 v6 rfl
 have h7 := blk_put (cs' := #[v0, v1, v2, v3, v4, v5, v6, v7, u8, u9]) h6 7 v7 rfl
 have h8 := blk_put (cs' := #[v0, v1, v2, v3, v4, v5, v6, v7, v8, u9]) h7 8 v8 rfl
 have h9 := blk_put (cs' := #[v0, v1, v2, v3, v4, v5, v6, v7, v8, v9]) h8 9 v9 rfl
 exact h9
theorem put10_far {w : World} {g k : Nat} {t : TypeId} {cs : Array Value} (h : w.heap[k]? = some (.cells cs t (0, 0))) (hk : k ≠ g) (v0 v1 v2 v3 v4 v5 v6 v7 v8 v9 : Value) : (put10 w g v0 v1 v2 v3 v4 v5 v6 v7 v8 v9).heap[k]? = some (.cells cs t (0, 0)) :=
 blk_far (blk_far (blk_far (blk_far (blk_far (blk_far (blk_far (blk_far (blk_far (blk_far h hk _) hk _) hk _) hk _) hk _) hk _) hk _) hk _) hk _) hk _
theorem put10_below {w0 w : World} {g : Nat} (h : Below w0.heap.size w0 w) (hg : w0.heap.size ≤ g) (v0 v1 v2 v3 v4 v5 v6 v7 v8 v9 : Value) : Below w0.heap.size w0 (put10 w g v0 v1 v2 v3 v4 v5 v6 v7 v8 v9) :=
 below_set (below_set (below_set (below_set (below_set (below_set (below_set (below_set (below_set (below_set h hg) hg) hg) hg) hg) hg) hg) hg) hg) hg
set_option maxHeartbeats 8000000 in
set_option maxRecDepth 100000 in
theorem laws_FnWinStep.calls (k : Nat) (A0 : Option Addr) (c0 : Nat) (l0 : List Int) (w : World) (hr0 : Kd.C (Kd.int .u8) w A0 l0.length l0) (hc0 : l0.length ≤ c0) (h : laws_FnWinStep.f k l0 = some true) :
  Calls Try.prog 7 #[.slice A0 l0.length c0] w fun e w' => e = .returned (.bool true) ∧ Below w.heap.size w w' := by
 have hu50 := Try.underlying50
 have hu34 := Try.underlying34
 have HR0 := Aside0.mk hr0
 have HC0 := Aside0.mk hc0
 clear hr0 hc0
 have HB := Aside0.mk (Below.refl w.heap.size w)
 have H : (if (l0.length : Int) > 1048576 then (some true) else ((spec_DrawWinOf.f k l0).bind fun bt224 => ((impl_JobOk.f k bt224.1 bt224.2.1 bt224.2.2.1 bt224.2.2.2.1 bt224.2.2.2.2.1 bt224.2.2.2.2.2.1 bt224.2.2.2.2.2.2.1 bt224.2.2.2.2.2.2.2.1 bt224.2.2.2.2.2.2.2.2.1 bt224.2.2.2.2.2.2.2.2.2.1).bind fun t236 => ((spec_JobOk.f k bt224.1 bt224.2.1 bt224.2.2.1 bt224.2.2.2.1 bt224.2.2.2.2.1 bt224.2.2.2.2.2.1 bt224.2.2.2.2.2.2.1 bt224.2.2.2.2.2.2.2.1 bt224.2.2.2.2.2.2.2.2.1 bt224.2.2.2.2.2.2.2.2.2.1).bind fun t237 => (if (t236 != t237) = true then (some false) else ((spec_JobOk.f k bt224.1 bt224.2.1 bt224.2.2.1 bt224.2.2.2.1 bt224.2.2.2.2.1 bt224.2.2.2.2.2.1 bt224.2.2.2.2.2.2.1 bt224.2.2.2.2.2.2.2.1 bt224.2.2.2.2.2.2.2.2.1 bt224.2.2.2.2.2.2.2.2.2.1).bind fun t238 => (if t238 = true then (if bt224.2.2.2.2.2.2.2.2.2.2 < 0 then (laws_FnWinStep.j0 k bt224.2.2.2.2.2.2.2.2.2.2 true bt224.1 bt224.2.1 bt224.2.2.1 bt224.2.2.2.1 bt224.2.2.2.2.1 bt224.2.2.2.2.2.1 bt224.2.2.2.2.2.2.1 bt224.2.2.2.2.2.2.2.1 bt224.2.2.2.2.2.2.2.2.1 bt224.2.2.2.2.2.2.2.2.2.1) else (laws_FnWinStep.j0 k bt224.2.2.2.2.2.2.2.2.2.2 (decide (bt224.2.2.2.2.2.2.2.2.2.2 > 60)) bt224.1 bt224.2.1 bt224.2.2.1 bt224.2.2.2.1 bt224.2.2.2.2.1 bt224.2.2.2.2.2.1 bt224.2.2.2.2.2.2.1 bt224.2.2.2.2.2.2.2.1 bt224.2.2.2.2.2.2.2.2.1 bt224.2.2.2.2.2.2.2.2.2.1)) else (laws_FnWinStep.j0 k bt224.2.2.2.2.2.2.2.2.2.2 true bt224.1 bt224.2.1 bt224.2.2.1 bt224.2.2.2.1 bt224.2.2.2.2.1 bt224.2.2.2.2.2.1 bt224.2.2.2.2.2.2.1 bt224.2.2.2.2.2.2.2.1 bt224.2.2.2.2.2.2.2.2.1 bt224.2.2.2.2.2.2.2.2.2.1)))))))) = some true := h
 clear h
 by_cases c2 : (l0.length : Int) > 1048576
 ·rw [if_pos c2] at H
  have c2b0 : decide (1048576 < (l0.length : Int)) = true := decide_eq_true c2
  have c2b1 : decide (1048576 < l0.length) = true := decide_eq_true (by omega)
  clear c2
  clear H
  go_enter Try.func7, Try.ntmps7
  go_wp2
  go_ret
  exact ⟨by first | rfl | (refine congrArg (fun b_ => Ending.returned (Value.bool b_)) ?_; first | exact hrt_.out | simpa using hrt_.out | (have hq_ := hrt_.out; simp at hq_ ⊢; omega)) | (simp [errW_none, errW_some] <;> rfl) | (simp [*, errW_none, errW_some] <;> rfl), by repeat (first | (with_reducible first | exact HB.out | apply below_alloc | apply pw_below_drewN | apply below_drew1) | exact HB.out)⟩
 ·rw [if_neg c2] at H
  have c2b0 : decide (1048576 < (l0.length : Int)) = false := decide_eq_false c2
  have c2b1 : decide (1048576 < l0.length) = false := decide_eq_false (by omega)
  clear c2
  replace H := Option.bind_eq_some_iff.mp H
  obtain ⟨⟨t224, t225, t226, t227, t228, t229, t230, t231, t232, t233, t234⟩, A30, H⟩ := H
  replace H : ((impl_JobOk.f k t224 t225 t226 t227 t228 t229 t230 t231 t232 t233).bind fun t236 => ((spec_JobOk.f k t224 t225 t226 t227 t228 t229 t230 t231 t232 t233).bind fun t237 => (if (t236 != t237) = true then (some false) else ((spec_JobOk.f k t224 t225 t226 t227 t228 t229 t230 t231 t232 t233).bind fun t238 => (if t238 = true then (if t234 < 0 then (laws_FnWinStep.j0 k t234 true t224 t225 t226 t227 t228 t229 t230 t231 t232 t233) else (laws_FnWinStep.j0 k t234 (decide (t234 > 60)) t224 t225 t226 t227 t228 t229 t230 t231 t232 t233)) else (laws_FnWinStep.j0 k t234 true t224 t225 t226 t227 t228 t229 t230 t231 t232 t233)))))) = some true := H
  have A3 := Aside0.mk A30
  clear A30
  replace H := Option.bind_eq_some_iff.mp H
  obtain ⟨t236, A40, H⟩ := H
  replace H : ((spec_JobOk.f k t224 t225 t226 t227 t228 t229 t230 t231 t232 t233).bind fun t237 => (if (t236 != t237) = true then (some false) else ((spec_JobOk.f k t224 t225 t226 t227 t228 t229 t230 t231 t232 t233).bind fun t238 => (if t238 = true then (if t234 < 0 then (laws_FnWinStep.j0 k t234 true t224 t225 t226 t227 t228 t229 t230 t231 t232 t233) else (laws_FnWinStep.j0 k t234 (decide (t234 > 60)) t224 t225 t226 t227 t228 t229 t230 t231 t232 t233)) else (laws_FnWinStep.j0 k t234 true t224 t225 t226 t227 t228 t229 t230 t231 t232 t233))))) = some true := H
  have A4 := Aside0.mk A40
  clear A40
  replace H := Option.bind_eq_some_iff.mp H
  obtain ⟨t237, A50, H⟩ := H
  replace H : (if (t236 != t237) = true then (some false) else ((spec_JobOk.f k t224 t225 t226 t227 t228 t229 t230 t231 t232 t233).bind fun t238 => (if t238 = true then (if t234 < 0 then (laws_FnWinStep.j0 k t234 true t224 t225 t226 t227 t228 t229 t230 t231 t232 t233) else (laws_FnWinStep.j0 k t234 (decide (t234 > 60)) t224 t225 t226 t227 t228 t229 t230 t231 t232 t233)) else (laws_FnWinStep.j0 k t234 true t224 t225 t226 t227 t228 t229 t230 t231 t232 t233)))) = some true := H
  have A5 := Aside0.mk A50
  clear A50
  by_cases c6 : (t236 != t237) = true
  ·rw [if_pos c6] at H
   have c6b0 : (t236 != t237) = true := c6
   (try (have c6b1 : decide (t236 = t237) = false := by simpa using c6))
   (try (have c6b2 : (t236 == t237) = false := by simpa using c6))
   (try (have c6b3 : ¬ (t236 = t237) := by simpa using c6))
   clear c6
   exact absurd H (by simp)
  ·rw [if_neg c6] at H
   have c6b0 : (t236 != t237) = false := by simpa using c6
   (try (have c6b1 : decide (t236 = t237) = true := by simpa using c6))
   (try (have c6b2 : (t236 == t237) = true := by simpa using c6))
   clear c6
   have HC7 := Aside0.mk H
   clear H
   go_enter Try.func7, Try.ntmps7
   try go_wp2_with (first | ((with_reducible refine gate_callee (f := 33) rfl ?_); refine goesL_ (some 16) rfl rfl Try.func33 (by kernel_rfl) rfl #[.slice A0 l0.length c0] rfl (by (try simp only [List.map_toArray, List.map_cons, List.map_nil]); first | done | rfl | (simp only [List.length_drop, List.length_take]; rfl)) ?_; (with_reducible refine (spec_DrawWinOf.calls k _ _ l0 t224 t225 t226 t227 t228 t229 t230 t231 t232 t233 t234 _ ?side1 ?side2 A3.out).mono ?_); (case side1 => repeat (first | exact HR0.out | (with_reducible refine Kd.C_alloc ?_ _) | (with_reducible refine Kd.C_drewN ?_ _) | (with_reducible refine Kd.C_drew ?_))); (case side2 => exact HC0.out); rintro e w8 ⟨rfl, hb⟩; refine ⟨_, rfl, ?_⟩; have n0_ := Aside0.mk (below_step (by repeat (first | (with_reducible first | exact HB.out | apply below_alloc | apply pw_below_drewN | apply below_drew1) | exact HB.out)) hb); clear HB; have HB := n0_; clear n0_; (try clear hb); (try clear hb2); (try clear hk); (try clear hi)) | ((with_reducible refine gate_dst (N := 3) rfl ?_); (try (refine gate_guard (by rfl) ?_; dsimp only)); refine box_event ?hg (N := 3) ?hd (cs := #[.int .i64 0, .int .i64 0, .int .i64 0, .int .i64 0, .int .i64 0, .int .i64 0, .int .i64 0, .bool false, .int .i64 0, .int .i64 0]) (t := 50) ?hr ?_; (case hd => rfl); (case hg => rfl); (case hr => first | (go_simp; done) | (go_simp; rfl)); intro gb235 hg w9 hbox hb; have n0_ := Aside0.mk (below_step (by repeat (first | (with_reducible first | exact HB.out | apply below_alloc | apply pw_below_drewN | apply below_drew1) | exact HB.out)) hb); have n1_ := Aside0.mk (hbox); have n2_ := Aside0.mk ((by rw [hg]; exact (below_size (by repeat (first | (with_reducible first | exact HB.out | apply below_alloc | apply pw_below_drewN | apply below_drew1) | exact HB.out))) : w.heap.size ≤ gb235)); have n3_ := Aside0.mk ((by rw [hg]; exact (below_size (by repeat (first | (with_reducible first | exact HB.out | apply below_alloc | apply pw_below_drewN | apply below_drew1) | exact HB.out))) : w.heap.size ≤ gb235)); clear HB; have HB := n0_; have BK235 := n1_; have GW235 := n2_; have GE235 := n3_; clear n0_ n1_ n2_ n3_; clear hb hbox hg; have hcz10_0 : w9.cell? ⟨gb235, 0, none⟩ = some (.int .i64 0) := (blk_cell BK235.out 0).trans rfl; have hcz10_1 : w9.cell? ⟨gb235, 1, none⟩ = some (.int .i64 0) := (blk_cell BK235.out 1).trans rfl; have hcz10_2 : w9.cell? ⟨gb235, 2, none⟩ = some (.int .i64 0) := (blk_cell BK235.out 2).trans rfl; have hcz10_3 : w9.cell? ⟨gb235, 3, none⟩ = some (.int .i64 0) := (blk_cell BK235.out 3).trans rfl; have hcz10_4 : w9.cell? ⟨gb235, 4, none⟩ = some (.int .i64 0) := (blk_cell BK235.out 4).trans rfl; have hcz10_5 : w9.cell? ⟨gb235, 5, none⟩ = some (.int .i64 0) := (blk_cell BK235.out 5).trans rfl; have hcz10_6 : w9.cell? ⟨gb235, 6, none⟩ = some (.int .i64 0) := (blk_cell BK235.out 6).trans rfl; have hcz10_7 : w9.cell? ⟨gb235, 7, none⟩ = some (.bool false) := (blk_cell BK235.out 7).trans rfl; have hcz10_8 : w9.cell? ⟨gb235, 8, none⟩ = some (.int .i64 0) := (blk_cell BK235.out 8).trans rfl; have hcz10_9 : w9.cell? ⟨gb235, 9, none⟩ = some (.int .i64 0) := (blk_cell BK235.out 9).trans rfl; have hfz10_0 := blk_frozen BK235.out 0; have hfz10_1 := blk_frozen BK235.out 1; have hfz10_2 := blk_frozen BK235.out 2; have hfz10_3 := blk_frozen BK235.out 3; have hfz10_4 := blk_frozen BK235.out 4; have hfz10_5 := blk_frozen BK235.out 5; have hfz10_6 := blk_frozen BK235.out 6; have hfz10_7 := blk_frozen BK235.out 7; have hfz10_8 := blk_frozen BK235.out 8; have hfz10_9 := blk_frozen BK235.out 9))
   have n0_ : Aside0 (((((((((((w9.setCell ⟨gb235, 0, none⟩ (.int .i64 t224)).setCell ⟨gb235, 1, none⟩ (.int .i64 t225)).setCell ⟨gb235, 2, none⟩ (.int .i64 t226)).setCell ⟨gb235, 3, none⟩ (.int .i64 t227)).setCell ⟨gb235, 4, none⟩ (.int .i64 t228)).setCell ⟨gb235, 5, none⟩ (.int .i64 t229)).setCell ⟨gb235, 6, none⟩ (.int .i64 t230)).setCell ⟨gb235, 7, none⟩ (.bool t231)).setCell ⟨gb235, 8, none⟩ (.int .i64 t232)).setCell ⟨gb235, 9, none⟩ (.int .i64 t233)).heap[gb235]? = some (.cells #[.int .i64 t224, .int .i64 t225, .int .i64 t226, .int .i64 t227, .int .i64 t228, .int .i64 t229, .int .i64 t230, .bool t231, .int .i64 t232, .int .i64 t233] 50 (0, 0))) := ⟨by (with_reducible repeat (first | refine blk_drewN ?_ _ | refine blk_drew ?_ | refine blk_alloc ?_ _)); refine blk_put (cs := #[.int .i64 t224, .int .i64 t225, .int .i64 t226, .int .i64 t227, .int .i64 t228, .int .i64 t229, .int .i64 t230, .bool t231, .int .i64 t232, .int .i64 0]) ?_ 9 _ rfl; (with_reducible repeat (first | refine blk_drewN ?_ _ | refine blk_drew ?_ | refine blk_alloc ?_ _)); refine blk_put (cs := #[.int .i64 t224, .int .i64 t225, .int .i64 t226, .int .i64 t227, .int .i64 t228, .int .i64 t229, .int .i64 t230, .bool t231, .int .i64 0, .int .i64 0]) ?_ 8 _ rfl; (with_reducible repeat (first | refine blk_drewN ?_ _ | refine blk_drew ?_ | refine blk_alloc ?_ _)); refine blk_put (cs := #[.int .i64 t224, .int .i64 t225, .int .i64 t226, .int .i64 t227, .int .i64 t228, .int .i64 t229, .int .i64 t230, .bool false, .int .i64 0, .int .i64 0]) ?_ 7 _ rfl; (with_reducible repeat (first | refine blk_drewN ?_ _ | refine blk_drew ?_ | refine blk_alloc ?_ _)); refine blk_put (cs := #[.int .i64 t224, .int .i64 t225, .int .i64 t226, .int .i64 t227, .int .i64 t228, .int .i64 t229, .int .i64 0, .bool false, .int .i64 0, .int .i64 0]) ?_ 6 _ rfl; (with_reducible repeat (first | refine blk_drewN ?_ _ | refine blk_drew ?_ | refine blk_alloc ?_ _)); refine blk_put (cs := #[.int .i64 t224, .int .i64 t225, .int .i64 t226, .int .i64 t227, .int .i64 t228, .int .i64 0, .int .i64 0, .bool false, .int .i64 0, .int .i64 0]) ?_ 5 _ rfl; (with_reducible repeat (first | refine blk_drewN ?_ _ | refine blk_drew ?_ | refine blk_alloc ?_ _)); refine blk_put (cs := #[.int .i64 t224, .int .i64 t225, .int .i64 t226, .int .i64 t227, .int .i64 0, .int .i64 0, .int .i64 0, .bool false, .int .i64 0, .int .i64 0]) ?_ 4 _ rfl; (with_reducible repeat (first | refine blk_drewN ?_ _ | refine blk_drew ?_ | refine blk_alloc ?_ _)); refine blk_put (cs := #[.int .i64 t224, .int .i64 t225, .int .i64 t226, .int .i64 0, .int .i64 0, .int .i64 0, .int .i64 0, .bool false, .int .i64 0, .int .i64 0]) ?_ 3 _ rfl; (with_reducible repeat (first | refine blk_drewN ?_ _ | refine blk_drew ?_ | refine blk_alloc ?_ _)); refine blk_put (cs := #[.int .i64 t224, .int .i64 t225, .int .i64 0, .int .i64 0, .int .i64 0, .int .i64 0, .int .i64 0, .bool false, .int .i64 0, .int .i64 0]) ?_ 2 _ rfl; (with_reducible repeat (first | refine blk_drewN ?_ _ | refine blk_drew ?_ | refine blk_alloc ?_ _)); refine blk_put (cs := #[.int .i64 t224, .int .i64 0, .int .i64 0, .int .i64 0, .int .i64 0, .int .i64 0, .int .i64 0, .bool false, .int .i64 0, .int .i64 0]) ?_ 1 _ rfl; (with_reducible repeat (first | refine blk_drewN ?_ _ | refine blk_drew ?_ | refine blk_alloc ?_ _)); refine blk_put (cs := #[.int .i64 0, .int .i64 0, .int .i64 0, .int .i64 0, .int .i64 0, .int .i64 0, .int .i64 0, .bool false, .int .i64 0, .int .i64 0]) ?_ 0 _ rfl; (with_reducible repeat (first | refine blk_drewN ?_ _ | refine blk_drew ?_ | refine blk_alloc ?_ _)); exact BK235.out⟩
   have n1_ : Aside0 (Below w.heap.size w ((((((((((w9.setCell ⟨gb235, 0, none⟩ (.int .i64 t224)).setCell ⟨gb235, 1, none⟩ (.int .i64 t225)).setCell ⟨gb235, 2, none⟩ (.int .i64 t226)).setCell ⟨gb235, 3, none⟩ (.int .i64 t227)).setCell ⟨gb235, 4, none⟩ (.int .i64 t228)).setCell ⟨gb235, 5, none⟩ (.int .i64 t229)).setCell ⟨gb235, 6, none⟩ (.int .i64 t230)).setCell ⟨gb235, 7, none⟩ (.bool t231)).setCell ⟨gb235, 8, none⟩ (.int .i64 t232)).setCell ⟨gb235, 9, none⟩ (.int .i64 t233))) := ⟨by repeat (first | (with_reducible first | exact HB.out | apply below_alloc | apply pw_below_drewN | apply below_drew1 | refine below_set ?_ GE235.out) | exact HB.out)⟩
   (try clear BK235)
   (try clear HB)
   generalize ((((((((((w9.setCell ⟨gb235, 0, none⟩ (.int .i64 t224)).setCell ⟨gb235, 1, none⟩ (.int .i64 t225)).setCell ⟨gb235, 2, none⟩ (.int .i64 t226)).setCell ⟨gb235, 3, none⟩ (.int .i64 t227)).setCell ⟨gb235, 4, none⟩ (.int .i64 t228)).setCell ⟨gb235, 5, none⟩ (.int .i64 t229)).setCell ⟨gb235, 6, none⟩ (.int .i64 t230)).setCell ⟨gb235, 7, none⟩ (.bool t231)).setCell ⟨gb235, 8, none⟩ (.int .i64 t232)).setCell ⟨gb235, 9, none⟩ (.int .i64 t233)) = w11 at n0_ n1_ ⊢
   have BK235 := n0_
   have HB := n1_
   clear n0_ n1_
   have n0_ := Aside0.mk (blk_drew BK235.out)
   have n1_ := Aside0.mk (below_drew1 HB.out)
   clear BK235
   clear HB
   have BK235 := n0_
   have HB := n1_
   clear n0_ n1_
   refine start_ (n := 5) (S := fun w' => w'.cell? ⟨gb235, 0, none⟩ = some (.int .i64 t224) ∧ w'.cell? ⟨gb235, 1, none⟩ = some (.int .i64 t225) ∧ w'.cell? ⟨gb235, 2, none⟩ = some (.int .i64 t226) ∧ w'.cell? ⟨gb235, 3, none⟩ = some (.int .i64 t227) ∧ w'.cell? ⟨gb235, 4, none⟩ = some (.int .i64 t228) ∧ w'.cell? ⟨gb235, 5, none⟩ = some (.int .i64 t229) ∧ w'.cell? ⟨gb235, 6, none⟩ = some (.int .i64 t230) ∧ w'.cell? ⟨gb235, 7, none⟩ = some (.bool t231) ∧ w'.cell? ⟨gb235, 8, none⟩ = some (.int .i64 t232) ∧ w'.cell? ⟨gb235, 9, none⟩ = some (.int .i64 t233)) (ds := []) #[false, false, false, false, false] (by kernel_rfl) rfl rfl ⟨(blk_cell BK235.out 0).trans rfl, (blk_cell BK235.out 1).trans rfl, (blk_cell BK235.out 2).trans rfl, (blk_cell BK235.out 3).trans rfl, (blk_cell BK235.out 4).trans rfl, (blk_cell BK235.out 5).trans rfl, (blk_cell BK235.out 6).trans rfl, (blk_cell BK235.out 7).trans rfl, (blk_cell BK235.out 8).trans rfl, (blk_cell BK235.out 9).trans rfl⟩ (fun hHeld => ?_)
   generalize w11.drew = w12 at BK235 HB hHeld ⊢
   refine take_ (i := 0) (N := some 19) (v := ?_) (a' := ?_) #[true, false, false, false, false] rfl rfl (by kernel_rfl) (fun _ _ _ h => h) (Or.inl ⟨by rfl, ?_⟩) hHeld ?_ ?_
   rotate_left
   ·rintro w' ⟨s0, s1, s2, s3, s4, s5, s6, s7, s8, s9⟩
    go_simp
    with_reducible rfl
   rotate_left
   ·simp only [Act.put, List.setIfInBounds_toArray, List.set_cons_zero, List.set_cons_succ, i64_w, i32_w]
    rfl
   refine take_ (i := 2) (N := some 21) (v := ?_) (a' := ?_) #[true, false, true, false, false] rfl rfl (by kernel_rfl) (fun _ _ _ h => h) (Or.inl ⟨by rfl, ?_⟩) hHeld ?_ ?_
   rotate_left
   ·rintro w' ⟨s0, s1, s2, s3, s4, s5, s6, s7, s8, s9⟩
    go_simp
    with_reducible rfl
   rotate_left
   ·simp only [Act.put, List.setIfInBounds_toArray, List.set_cons_zero, List.set_cons_succ, i64_w, i32_w]
    rfl
   refine one_ (i := 1) (N := some 20) #[true, true, true, false, false] rfl rfl (by kernel_rfl) (by decide) (fun K hK => ?_)
   refine goes_ Try.func34 (by kernel_rfl) rfl #[.agg #[.int .i64 t224, .int .i64 t225, .int .i64 t226, .int .i64 t227, .int .i64 t228, .int .i64 t229, .int .i64 t230, .bool t231, .int .i64 t232, .int .i64 t233]] (by rfl) rfl rfl (by (try simp only [List.map_toArray, List.map_cons, List.map_nil]); first | done | rfl | (simp only [List.length_drop, List.length_take]; rfl)) ?_
   with_reducible refine (impl_JobOk.calls k t224 t225 t226 t227 t228 t229 t230 t231 t232 t233 t236 _ A4.out).mono ?_
   rintro e w13 ⟨rfl, hb⟩
   refine ⟨_, rfl, ?_⟩
   have n0_ := Aside0.mk (blk_below (g := gb235) (o := .cells #[.int .i64 t224, .int .i64 t225, .int .i64 t226, .int .i64 t227, .int .i64 t228, .int .i64 t229, .int .i64 t230, .bool t231, .int .i64 t232, .int .i64 t233] 50 (0, 0)) (by (with_reducible repeat (first | refine blk_drewN ?_ _ | refine blk_drew ?_ | refine blk_alloc ?_ _)); exact BK235.out) hb)
   have n1_ := Aside0.mk (below_step (by repeat (first | (with_reducible first | exact HB.out | apply below_alloc | apply pw_below_drewN | apply below_drew1 | refine below_set ?_ GE235.out) | exact HB.out)) hb)
   clear BK235
   clear HB
   have BK235 := n0_
   have HB := n1_
   clear n0_ n1_
   (try clear hb)
   (try clear hb2)
   (try clear hk)
   (try clear hi)
   refine hK.out _ _ ⟨(blk_cell BK235.out 0).trans rfl, (blk_cell BK235.out 1).trans rfl, (blk_cell BK235.out 2).trans rfl, (blk_cell BK235.out 3).trans rfl, (blk_cell BK235.out 4).trans rfl, (blk_cell BK235.out 5).trans rfl, (blk_cell BK235.out 6).trans rfl, (blk_cell BK235.out 7).trans rfl, (blk_cell BK235.out 8).trans rfl, (blk_cell BK235.out 9).trans rfl⟩ (fun hHeld => ?_)
   clear hK K
   refine norm_ (a' := ?_) ?_ ?_
   rotate_left
   ·show Act.put _ (some 20) _ = _
    simp only [Act.put, List.setIfInBounds_toArray, List.set_cons_zero, List.set_cons_succ, i64_w, i32_w]
    rfl
   refine one_ (i := 3) (N := some 22) #[true, true, true, true, false] rfl rfl (by kernel_rfl) (by decide) (fun K hK => ?_)
   refine goes_ Try.func35 (by kernel_rfl) rfl #[.agg #[.int .i64 t224, .int .i64 t225, .int .i64 t226, .int .i64 t227, .int .i64 t228, .int .i64 t229, .int .i64 t230, .bool t231, .int .i64 t232, .int .i64 t233]] (by rfl) rfl rfl (by (try simp only [List.map_toArray, List.map_cons, List.map_nil]); first | done | rfl | (simp only [List.length_drop, List.length_take]; rfl)) ?_
   with_reducible refine (spec_JobOk.calls k t224 t225 t226 t227 t228 t229 t230 t231 t232 t233 t237 _ A5.out).mono ?_
   rintro e w14 ⟨rfl, hb⟩
   refine ⟨_, rfl, ?_⟩
   have n0_ := Aside0.mk (blk_below (g := gb235) (o := .cells #[.int .i64 t224, .int .i64 t225, .int .i64 t226, .int .i64 t227, .int .i64 t228, .int .i64 t229, .int .i64 t230, .bool t231, .int .i64 t232, .int .i64 t233] 50 (0, 0)) (by (with_reducible repeat (first | refine blk_drewN ?_ _ | refine blk_drew ?_ | refine blk_alloc ?_ _)); exact BK235.out) hb)
   have n1_ := Aside0.mk (below_step (by repeat (first | (with_reducible first | exact HB.out | apply below_alloc | apply pw_below_drewN | apply below_drew1 | refine below_set ?_ GE235.out) | exact HB.out)) hb)
   clear BK235
   clear HB
   have BK235 := n0_
   have HB := n1_
   clear n0_ n1_
   (try clear hb)
   (try clear hb2)
   (try clear hk)
   (try clear hi)
   refine hK.out _ _ ⟨(blk_cell BK235.out 0).trans rfl, (blk_cell BK235.out 1).trans rfl, (blk_cell BK235.out 2).trans rfl, (blk_cell BK235.out 3).trans rfl, (blk_cell BK235.out 4).trans rfl, (blk_cell BK235.out 5).trans rfl, (blk_cell BK235.out 6).trans rfl, (blk_cell BK235.out 7).trans rfl, (blk_cell BK235.out 8).trans rfl, (blk_cell BK235.out 9).trans rfl⟩ (fun hHeld => ?_)
   clear hK K
   refine norm_ (a' := ?_) ?_ ?_
   rotate_left
   ·show Act.put _ (some 22) _ = _
    simp only [Act.put, List.setIfInBounds_toArray, List.set_cons_zero, List.set_cons_succ, i64_w, i32_w]
    rfl
   refine pure_ (i := 4) (N := some 23) (v := ?_) (a' := ?_) #[true, true, true, true, true] rfl rfl (by kernel_rfl) (fun _ _ _ h => h) (Or.inl ⟨by rfl, ?_⟩) ?_ ?_
   rotate_left
   ·intro w'
    go_simp
    with_reducible rfl
   rotate_left
   ·simp only [Act.put, List.setIfInBounds_toArray, List.set_cons_zero, List.set_cons_succ, i64_w, i32_w]
    rfl
   refine done_ (by kernel_rfl) ?_
   go_upto_region 6 with (fail)
   go_cut [34] (fun v34 wc => ∃ (kq : Nat) (x34_6 : Bool), v34 = .bool x34_6 ∧ Aside0 (laws_FnWinStep.j0 kq t234 x34_6 t224 t225 t226 t227 t228 t229 t230 t231 t232 t233 = some true) ∧ Aside0 (kq ≤ k) ∧ Aside0 (wc.heap[gb235]? = some (.cells #[.int .i64 t224, .int .i64 t225, .int .i64 t226, .int .i64 t227, .int .i64 t228, .int .i64 t229, .int .i64 t230, .bool t231, .int .i64 t232, .int .i64 t233] 50 (0, 0))) ∧ Aside0 (Below w.heap.size w wc))
   case first =>
    have H := HC7.out
    clear HC7
    replace H := Option.bind_eq_some_iff.mp H
    obtain ⟨t238, A150, H⟩ := H
    replace H : (if t238 = true then (if t234 < 0 then (laws_FnWinStep.j0 k t234 true t224 t225 t226 t227 t228 t229 t230 t231 t232 t233) else (laws_FnWinStep.j0 k t234 (decide (t234 > 60)) t224 t225 t226 t227 t228 t229 t230 t231 t232 t233)) else (laws_FnWinStep.j0 k t234 true t224 t225 t226 t227 t228 t229 t230 t231 t232 t233)) = some true := H
    have A15 := Aside0.mk A150
    clear A150
    by_cases c16 : t238 = true
    ·subst c16
     have H1 : (if t234 < 0 then (laws_FnWinStep.j0 k t234 true t224 t225 t226 t227 t228 t229 t230 t231 t232 t233) else (laws_FnWinStep.j0 k t234 (decide (t234 > 60)) t224 t225 t226 t227 t228 t229 t230 t231 t232 t233)) = some true := by rw [if_pos rfl] at H; exact H
     clear H
     have H := H1
     clear H1
     by_cases c17 : t234 < 0
     ·rw [if_pos c17] at H
      have c17b0 : decide (t234 < 0) = true := decide_eq_true c17
      clear c17
      (first | rw [c17b0] | (simp only [i64_w, i32_w]; rw [c17b0]) | skip)
      have H' := Aside0.mk H
      clear H
      have hcz18_0 : w14.cell? ⟨gb235, 0, none⟩ = some (.int .i64 t224) := (blk_cell BK235.out 0).trans rfl
      have hcz18_1 : w14.cell? ⟨gb235, 1, none⟩ = some (.int .i64 t225) := (blk_cell BK235.out 1).trans rfl
      have hcz18_2 : w14.cell? ⟨gb235, 2, none⟩ = some (.int .i64 t226) := (blk_cell BK235.out 2).trans rfl
      have hcz18_3 : w14.cell? ⟨gb235, 3, none⟩ = some (.int .i64 t227) := (blk_cell BK235.out 3).trans rfl
      have hcz18_4 : w14.cell? ⟨gb235, 4, none⟩ = some (.int .i64 t228) := (blk_cell BK235.out 4).trans rfl
      have hcz18_5 : w14.cell? ⟨gb235, 5, none⟩ = some (.int .i64 t229) := (blk_cell BK235.out 5).trans rfl
      have hcz18_6 : w14.cell? ⟨gb235, 6, none⟩ = some (.int .i64 t230) := (blk_cell BK235.out 6).trans rfl
      have hcz18_7 : w14.cell? ⟨gb235, 7, none⟩ = some (.bool t231) := (blk_cell BK235.out 7).trans rfl
      have hcz18_8 : w14.cell? ⟨gb235, 8, none⟩ = some (.int .i64 t232) := (blk_cell BK235.out 8).trans rfl
      have hcz18_9 : w14.cell? ⟨gb235, 9, none⟩ = some (.int .i64 t233) := (blk_cell BK235.out 9).trans rfl
      have hfz18_0 := blk_frozen BK235.out 0
      have hfz18_1 := blk_frozen BK235.out 1
      have hfz18_2 := blk_frozen BK235.out 2
      have hfz18_3 := blk_frozen BK235.out 3
      have hfz18_4 := blk_frozen BK235.out 4
      have hfz18_5 := blk_frozen BK235.out 5
      have hfz18_6 := blk_frozen BK235.out 6
      have hfz18_7 := blk_frozen BK235.out 7
      have hfz18_8 := blk_frozen BK235.out 8
      have hfz18_9 := blk_frozen BK235.out 9
      go_wp2_with (first | ((with_reducible refine gate_callee (f := 35) rfl ?_); refine goesL_ (some 25) rfl rfl Try.func35 (by kernel_rfl) rfl #[.agg #[.int .i64 t224, .int .i64 t225, .int .i64 t226, .int .i64 t227, .int .i64 t228, .int .i64 t229, .int .i64 t230, .bool t231, .int .i64 t232, .int .i64 t233]] rfl (by (try simp only [List.map_toArray, List.map_cons, List.map_nil]); first | done | rfl | (simp only [List.length_drop, List.length_take]; rfl)) ?_; (with_reducible refine (spec_JobOk.calls k t224 t225 t226 t227 t228 t229 t230 t231 t232 t233 true _ A15.out).mono ?_); rintro e w19 ⟨rfl, hb⟩; refine ⟨_, rfl, ?_⟩; have n0_ := Aside0.mk (blk_below (g := gb235) (o := .cells #[.int .i64 t224, .int .i64 t225, .int .i64 t226, .int .i64 t227, .int .i64 t228, .int .i64 t229, .int .i64 t230, .bool t231, .int .i64 t232, .int .i64 t233] 50 (0, 0)) (by (with_reducible repeat (first | refine blk_drewN ?_ _ | refine blk_drew ?_ | refine blk_alloc ?_ _)); exact BK235.out) hb); have n1_ := Aside0.mk (below_step (by repeat (first | (with_reducible first | exact HB.out | apply below_alloc | apply pw_below_drewN | apply below_drew1 | refine below_set ?_ GE235.out) | exact HB.out)) hb); clear BK235; clear HB; have BK235 := n0_; have HB := n1_; clear n0_ n1_; (try clear hb); (try clear hb2); (try clear hk); (try clear hi)))
      go_meet
      case rel => exact ⟨_, (true), (by first | rfl | (simp; done) | (simp [*]; done)), H', ⟨by first | omega | exact Nat.le_refl _⟩, ⟨by (with_reducible repeat (first | refine blk_drewN ?_ _ | refine blk_drew ?_ | refine blk_alloc ?_ _)); exact BK235.out⟩, ⟨by repeat (first | (with_reducible first | exact HB.out | apply below_alloc | apply pw_below_drewN | apply below_drew1 | refine below_set ?_ GE235.out) | exact HB.out)⟩⟩
     ·rw [if_neg c17] at H
      have c17b0 : decide (t234 < 0) = false := decide_eq_false c17
      clear c17
      (first | rw [c17b0] | (simp only [i64_w, i32_w]; rw [c17b0]) | skip)
      have H' := Aside0.mk H
      clear H
      have hcz20_0 : w14.cell? ⟨gb235, 0, none⟩ = some (.int .i64 t224) := (blk_cell BK235.out 0).trans rfl
      have hcz20_1 : w14.cell? ⟨gb235, 1, none⟩ = some (.int .i64 t225) := (blk_cell BK235.out 1).trans rfl
      have hcz20_2 : w14.cell? ⟨gb235, 2, none⟩ = some (.int .i64 t226) := (blk_cell BK235.out 2).trans rfl
      have hcz20_3 : w14.cell? ⟨gb235, 3, none⟩ = some (.int .i64 t227) := (blk_cell BK235.out 3).trans rfl
      have hcz20_4 : w14.cell? ⟨gb235, 4, none⟩ = some (.int .i64 t228) := (blk_cell BK235.out 4).trans rfl
      have hcz20_5 : w14.cell? ⟨gb235, 5, none⟩ = some (.int .i64 t229) := (blk_cell BK235.out 5).trans rfl
      have hcz20_6 : w14.cell? ⟨gb235, 6, none⟩ = some (.int .i64 t230) := (blk_cell BK235.out 6).trans rfl
      have hcz20_7 : w14.cell? ⟨gb235, 7, none⟩ = some (.bool t231) := (blk_cell BK235.out 7).trans rfl
      have hcz20_8 : w14.cell? ⟨gb235, 8, none⟩ = some (.int .i64 t232) := (blk_cell BK235.out 8).trans rfl
      have hcz20_9 : w14.cell? ⟨gb235, 9, none⟩ = some (.int .i64 t233) := (blk_cell BK235.out 9).trans rfl
      have hfz20_0 := blk_frozen BK235.out 0
      have hfz20_1 := blk_frozen BK235.out 1
      have hfz20_2 := blk_frozen BK235.out 2
      have hfz20_3 := blk_frozen BK235.out 3
      have hfz20_4 := blk_frozen BK235.out 4
      have hfz20_5 := blk_frozen BK235.out 5
      have hfz20_6 := blk_frozen BK235.out 6
      have hfz20_7 := blk_frozen BK235.out 7
      have hfz20_8 := blk_frozen BK235.out 8
      have hfz20_9 := blk_frozen BK235.out 9
      go_wp2_with (first | ((with_reducible refine gate_callee (f := 35) rfl ?_); refine goesL_ (some 25) rfl rfl Try.func35 (by kernel_rfl) rfl #[.agg #[.int .i64 t224, .int .i64 t225, .int .i64 t226, .int .i64 t227, .int .i64 t228, .int .i64 t229, .int .i64 t230, .bool t231, .int .i64 t232, .int .i64 t233]] rfl (by (try simp only [List.map_toArray, List.map_cons, List.map_nil]); first | done | rfl | (simp only [List.length_drop, List.length_take]; rfl)) ?_; (with_reducible refine (spec_JobOk.calls k t224 t225 t226 t227 t228 t229 t230 t231 t232 t233 true _ A15.out).mono ?_); rintro e w21 ⟨rfl, hb⟩; refine ⟨_, rfl, ?_⟩; have n0_ := Aside0.mk (blk_below (g := gb235) (o := .cells #[.int .i64 t224, .int .i64 t225, .int .i64 t226, .int .i64 t227, .int .i64 t228, .int .i64 t229, .int .i64 t230, .bool t231, .int .i64 t232, .int .i64 t233] 50 (0, 0)) (by (with_reducible repeat (first | refine blk_drewN ?_ _ | refine blk_drew ?_ | refine blk_alloc ?_ _)); exact BK235.out) hb); have n1_ := Aside0.mk (below_step (by repeat (first | (with_reducible first | exact HB.out | apply below_alloc | apply pw_below_drewN | apply below_drew1 | refine below_set ?_ GE235.out) | exact HB.out)) hb); clear BK235; clear HB; have BK235 := n0_; have HB := n1_; clear n0_ n1_; (try clear hb); (try clear hb2); (try clear hk); (try clear hi)))
      go_meet
      case rel => exact ⟨_, (decide (t234 > 60)), (by first | rfl | (simp; done) | (simp [*]; done)), H', ⟨by first | omega | exact Nat.le_refl _⟩, ⟨by (with_reducible repeat (first | refine blk_drewN ?_ _ | refine blk_drew ?_ | refine blk_alloc ?_ _)); exact BK235.out⟩, ⟨by repeat (first | (with_reducible first | exact HB.out | apply below_alloc | apply pw_below_drewN | apply below_drew1 | refine below_set ?_ GE235.out) | exact HB.out)⟩⟩
    ·replace c16 := Bool.eq_false_iff.mpr c16
     subst c16
     have H1 : (laws_FnWinStep.j0 k t234 true t224 t225 t226 t227 t228 t229 t230 t231 t232 t233) = some true := by rw [if_neg (show ¬ (false = true) by decide)] at H; exact H
     clear H
     have H := H1
     clear H1
     have H' := Aside0.mk H
     clear H
     have hcz22_0 : w14.cell? ⟨gb235, 0, none⟩ = some (.int .i64 t224) := (blk_cell BK235.out 0).trans rfl
     have hcz22_1 : w14.cell? ⟨gb235, 1, none⟩ = some (.int .i64 t225) := (blk_cell BK235.out 1).trans rfl
     have hcz22_2 : w14.cell? ⟨gb235, 2, none⟩ = some (.int .i64 t226) := (blk_cell BK235.out 2).trans rfl
     have hcz22_3 : w14.cell? ⟨gb235, 3, none⟩ = some (.int .i64 t227) := (blk_cell BK235.out 3).trans rfl
     have hcz22_4 : w14.cell? ⟨gb235, 4, none⟩ = some (.int .i64 t228) := (blk_cell BK235.out 4).trans rfl
     have hcz22_5 : w14.cell? ⟨gb235, 5, none⟩ = some (.int .i64 t229) := (blk_cell BK235.out 5).trans rfl
     have hcz22_6 : w14.cell? ⟨gb235, 6, none⟩ = some (.int .i64 t230) := (blk_cell BK235.out 6).trans rfl
     have hcz22_7 : w14.cell? ⟨gb235, 7, none⟩ = some (.bool t231) := (blk_cell BK235.out 7).trans rfl
     have hcz22_8 : w14.cell? ⟨gb235, 8, none⟩ = some (.int .i64 t232) := (blk_cell BK235.out 8).trans rfl
     have hcz22_9 : w14.cell? ⟨gb235, 9, none⟩ = some (.int .i64 t233) := (blk_cell BK235.out 9).trans rfl
     have hfz22_0 := blk_frozen BK235.out 0
     have hfz22_1 := blk_frozen BK235.out 1
     have hfz22_2 := blk_frozen BK235.out 2
     have hfz22_3 := blk_frozen BK235.out 3
     have hfz22_4 := blk_frozen BK235.out 4
     have hfz22_5 := blk_frozen BK235.out 5
     have hfz22_6 := blk_frozen BK235.out 6
     have hfz22_7 := blk_frozen BK235.out 7
     have hfz22_8 := blk_frozen BK235.out 8
     have hfz22_9 := blk_frozen BK235.out 9
     go_wp2_with (first | ((with_reducible refine gate_callee (f := 35) rfl ?_); refine goesL_ (some 25) rfl rfl Try.func35 (by kernel_rfl) rfl #[.agg #[.int .i64 t224, .int .i64 t225, .int .i64 t226, .int .i64 t227, .int .i64 t228, .int .i64 t229, .int .i64 t230, .bool t231, .int .i64 t232, .int .i64 t233]] rfl (by (try simp only [List.map_toArray, List.map_cons, List.map_nil]); first | done | rfl | (simp only [List.length_drop, List.length_take]; rfl)) ?_; (with_reducible refine (spec_JobOk.calls k t224 t225 t226 t227 t228 t229 t230 t231 t232 t233 false _ A15.out).mono ?_); rintro e w23 ⟨rfl, hb⟩; refine ⟨_, rfl, ?_⟩; have n0_ := Aside0.mk (blk_below (g := gb235) (o := .cells #[.int .i64 t224, .int .i64 t225, .int .i64 t226, .int .i64 t227, .int .i64 t228, .int .i64 t229, .int .i64 t230, .bool t231, .int .i64 t232, .int .i64 t233] 50 (0, 0)) (by (with_reducible repeat (first | refine blk_drewN ?_ _ | refine blk_drew ?_ | refine blk_alloc ?_ _)); exact BK235.out) hb); have n1_ := Aside0.mk (below_step (by repeat (first | (with_reducible first | exact HB.out | apply below_alloc | apply pw_below_drewN | apply below_drew1 | refine below_set ?_ GE235.out) | exact HB.out)) hb); clear BK235; clear HB; have BK235 := n0_; have HB := n1_; clear n0_ n1_; (try clear hb); (try clear hb2); (try clear hk); (try clear hi)))
     go_meet
     case rel => exact ⟨_, (true), (by first | rfl | (simp; done) | (simp [*]; done)), H', ⟨by first | omega | exact Nat.le_refl _⟩, ⟨by (with_reducible repeat (first | refine blk_drewN ?_ _ | refine blk_drew ?_ | refine blk_alloc ?_ _)); exact BK235.out⟩, ⟨by repeat (first | (with_reducible first | exact HB.out | apply below_alloc | apply pw_below_drewN | apply below_drew1 | refine below_set ?_ GE235.out) | exact HB.out)⟩⟩
   case rest =>
    clear HC7
    try clear c1
    try clear c2
    try clear c2b0
    try clear c2b1
    try clear p2
    try clear c3
    try clear c6
    try clear c6b0
    try clear c6b1
    try clear c6b2
    try clear c7
    try clear c16
    try clear c17
    try clear c17b0
    try clear hcz10_0
    try clear hcz10_1
    try clear hcz10_2
    try clear hcz10_3
    try clear hcz10_4
    try clear hcz10_5
    try clear hcz10_6
    try clear hcz10_7
    try clear hcz10_8
    try clear hcz10_9
    try clear hcz18_0
    try clear hcz18_1
    try clear hcz18_2
    try clear hcz18_3
    try clear hcz18_4
    try clear hcz18_5
    try clear hcz18_6
    try clear hcz18_7
    try clear hcz18_8
    try clear hcz18_9
    try clear hcz20_0
    try clear hcz20_1
    try clear hcz20_2
    try clear hcz20_3
    try clear hcz20_4
    try clear hcz20_5
    try clear hcz20_6
    try clear hcz20_7
    try clear hcz20_8
    try clear hcz20_9
    try clear hcz22_0
    try clear hcz22_1
    try clear hcz22_2
    try clear hcz22_3
    try clear hcz22_4
    try clear hcz22_5
    try clear hcz22_6
    try clear hcz22_7
    try clear hcz22_8
    try clear hcz22_9
    try clear hfz10_0
    try clear hfz10_1
    try clear hfz10_2
    try clear hfz10_3
    try clear hfz10_4
    try clear hfz10_5
    try clear hfz10_6
    try clear hfz10_7
    try clear hfz10_8
    try clear hfz10_9
    try clear hfz18_0
    try clear hfz18_1
    try clear hfz18_2
    try clear hfz18_3
    try clear hfz18_4
    try clear hfz18_5
    try clear hfz18_6
    try clear hfz18_7
    try clear hfz18_8
    try clear hfz18_9
    try clear hfz20_0
    try clear hfz20_1
    try clear hfz20_2
    try clear hfz20_3
    try clear hfz20_4
    try clear hfz20_5
    try clear hfz20_6
    try clear hfz20_7
    try clear hfz20_8
    try clear hfz20_9
    try clear hfz22_0
    try clear hfz22_1
    try clear hfz22_2
    try clear hfz22_3
    try clear hfz22_4
    try clear hfz22_5
    try clear hfz22_6
    try clear hfz22_7
    try clear hfz22_8
    try clear hfz22_9
    obtain ⟨kq, x34_6, rfl, HA, HJ6, BK235, HB⟩ := hcut
    cases kq with
    | zero => exact absurd HA.out (by simp [laws_FnWinStep.j0])
    | succ kj6 =>
     have H := HA.out
     clear HA
     simp only [laws_FnWinStep.j0] at H
     by_cases c24 : x34_6 = true
     ·subst c24
      have H1 : ((impl_WinOf.f kj6 t224 t225 t226 t227 t228 t229 t230 t231 t232 t233 t234).bind fun t239 => (if (t239.length : Int) = 0 then ((laws_frOk.f).bind fun t242 => (some t242)) else (some false))) = some true := by rw [if_pos rfl] at H; exact H
      clear H
      have H := H1
      clear H1
      replace H := Option.bind_eq_some_iff.mp H
      obtain ⟨t239, A250, H⟩ := H
      replace H : (if (t239.length : Int) = 0 then ((laws_frOk.f).bind fun t242 => (some t242)) else (some false)) = some true := H
      have A25 := Aside0.mk A250
      clear A250
      by_cases c26 : (t239.length : Int) = 0
      ·rw [if_pos c26] at H
       have c26b0 : ((t239.length : Int) == 0) = true := beq_iff_eq.mpr c26
       have c26b1 : ((t239.length : Int) != 0) = false := bne_eq_false_iff_eq.mpr c26
       clear c26
       replace H := Option.bind_eq_some_iff.mp H
       obtain ⟨t242, A270, H⟩ := H
       replace H : (some t242) = some true := H
       have A27 := Aside0.mk A270
       clear A270
       have hrt_ := Aside0.mk (Option.some.inj H)
       clear H
       have hcz28_0 : wc.cell? ⟨gb235, 0, none⟩ = some (.int .i64 t224) := (blk_cell BK235.out 0).trans rfl
       have hcz28_1 : wc.cell? ⟨gb235, 1, none⟩ = some (.int .i64 t225) := (blk_cell BK235.out 1).trans rfl
       have hcz28_2 : wc.cell? ⟨gb235, 2, none⟩ = some (.int .i64 t226) := (blk_cell BK235.out 2).trans rfl
       have hcz28_3 : wc.cell? ⟨gb235, 3, none⟩ = some (.int .i64 t227) := (blk_cell BK235.out 3).trans rfl
       have hcz28_4 : wc.cell? ⟨gb235, 4, none⟩ = some (.int .i64 t228) := (blk_cell BK235.out 4).trans rfl
       have hcz28_5 : wc.cell? ⟨gb235, 5, none⟩ = some (.int .i64 t229) := (blk_cell BK235.out 5).trans rfl
       have hcz28_6 : wc.cell? ⟨gb235, 6, none⟩ = some (.int .i64 t230) := (blk_cell BK235.out 6).trans rfl
       have hcz28_7 : wc.cell? ⟨gb235, 7, none⟩ = some (.bool t231) := (blk_cell BK235.out 7).trans rfl
       have hcz28_8 : wc.cell? ⟨gb235, 8, none⟩ = some (.int .i64 t232) := (blk_cell BK235.out 8).trans rfl
       have hcz28_9 : wc.cell? ⟨gb235, 9, none⟩ = some (.int .i64 t233) := (blk_cell BK235.out 9).trans rfl
       have hfz28_0 := blk_frozen BK235.out 0
       have hfz28_1 := blk_frozen BK235.out 1
       have hfz28_2 := blk_frozen BK235.out 2
       have hfz28_3 := blk_frozen BK235.out 3
       have hfz28_4 := blk_frozen BK235.out 4
       have hfz28_5 := blk_frozen BK235.out 5
       have hfz28_6 := blk_frozen BK235.out 6
       have hfz28_7 := blk_frozen BK235.out 7
       have hfz28_8 := blk_frozen BK235.out 8
       have hfz28_9 := blk_frozen BK235.out 9
       go_wp2_with (first | ((with_reducible refine gate_callee (f := 36) rfl ?_); refine goesL_ (some 37) rfl rfl Try.func36 (by kernel_rfl) rfl #[.agg #[.int .i64 t224, .int .i64 t225, .int .i64 t226, .int .i64 t227, .int .i64 t228, .int .i64 t229, .int .i64 t230, .bool t231, .int .i64 t232, .int .i64 t233], .int .i64 t234] rfl (by (try simp only [List.map_toArray, List.map_cons, List.map_nil]); first | done | rfl | (simp only [List.length_drop, List.length_take]; rfl)) ?_; (with_reducible refine (impl_WinOf.calls kj6 t224 t225 t226 t227 t228 t229 t230 t231 t232 t233 t234 t239 _ A25.out).mono ?_); rintro e w29 ⟨v240, rfl, ho0, hb⟩; refine ⟨_, rfl, ?_⟩; have n0_ := Aside0.mk (Kd.R_lower ho0 (below_size (by repeat (first | (with_reducible first | exact HB.out | apply below_alloc | apply pw_below_drewN | apply below_drew1 | refine below_set ?_ GE235.out) | exact HB.out)))); have n1_ := Aside0.mk (blk_below (g := gb235) (o := .cells #[.int .i64 t224, .int .i64 t225, .int .i64 t226, .int .i64 t227, .int .i64 t228, .int .i64 t229, .int .i64 t230, .bool t231, .int .i64 t232, .int .i64 t233] 50 (0, 0)) (by (with_reducible repeat (first | refine blk_drewN ?_ _ | refine blk_drew ?_ | refine blk_alloc ?_ _)); exact BK235.out) hb); have n2_ := Aside0.mk (below_step (by repeat (first | (with_reducible first | exact HB.out | apply below_alloc | apply pw_below_drewN | apply below_drew1 | refine below_set ?_ GE235.out) | exact HB.out)) hb); clear BK235; clear HB; have HO241 := n0_; have BK235 := n1_; have HB := n2_; clear n0_ n1_ n2_; (try clear hb); (try clear hb2); (try clear hk); (try clear hi); (try clear ho0); obtain ⟨Ao30, co30, eo30⟩ := Kd.R_slice HO241.out; subst eo30) | (go_at_call 37; (with_reducible refine (laws_frOk.calls  t242 _ A27.out).mono ?_); rintro e w31 ⟨rfl, hb⟩; have n0_ := Aside0.mk (Kd.R_below (by (with_reducible repeat (first | apply Kd.R_alloc | apply Kd.R_drewN | apply Kd.R_drew)); exact HO241.out) hb); have n1_ := Aside0.mk (blk_below (g := gb235) (o := .cells #[.int .i64 t224, .int .i64 t225, .int .i64 t226, .int .i64 t227, .int .i64 t228, .int .i64 t229, .int .i64 t230, .bool t231, .int .i64 t232, .int .i64 t233] 50 (0, 0)) (by (with_reducible repeat (first | refine blk_drewN ?_ _ | refine blk_drew ?_ | refine blk_alloc ?_ _)); exact BK235.out) hb); have n2_ := Aside0.mk (below_step (by repeat (first | (with_reducible first | exact HB.out | apply below_alloc | apply pw_below_drewN | apply below_drew1 | refine below_set ?_ GE235.out) | exact HB.out)) hb); clear HO241; clear BK235; clear HB; have HO241 := n0_; have BK235 := n1_; have HB := n2_; clear n0_ n1_ n2_; (try clear hb); (try clear hb2); (try clear hk); (try clear hi)))
       go_ret
       exact ⟨by first | rfl | (refine congrArg (fun b_ => Ending.returned (Value.bool b_)) ?_; first | exact hrt_.out | simpa using hrt_.out | (have hq_ := hrt_.out; simp at hq_ ⊢; omega)) | (simp [errW_none, errW_some] <;> rfl) | (simp [*, errW_none, errW_some] <;> rfl), by repeat (first | (with_reducible first | exact HB.out | apply below_alloc | apply pw_below_drewN | apply below_drew1 | refine below_set ?_ GE235.out) | exact HB.out)⟩
      ·rw [if_neg c26] at H
       have c26b0 : ((t239.length : Int) == 0) = false := beq_eq_false_iff_ne.mpr c26
       have c26b1 : ((t239.length : Int) != 0) = true := bne_iff_ne.mpr c26
       have c26b2 : ¬ (t239 = []) := fun h_ => c26 (by rw [h_]; rfl)
       exact absurd H (by simp)
     ·replace c24 := Bool.eq_false_iff.mpr c24
      subst c24
      have H1 : ((impl_WinOf.f kj6 t224 t225 1 t227 0 t229 t230 t231 t232 t233 t234).bind fun t246 => ((impl_WinOf.f kj6 t224 t225 2 t227 t227 t229 t230 t231 t232 t233 t234).bind fun t249 => ((impl_WinOf.f kj6 t224 t225 3 t227 0 t229 t230 t231 t232 t233 t234).bind fun t252 => (if (t246.length : Int) = 1 then ((laws_frWins.f kj6 t246 t249).bind fun t255 => (if t255 = true then (if (t252.length : Int) = 1 then (if 0 < (t246.length : Int) then (if 0 < (t252.length : Int) then ((impl_WinTouch.f ((rd_T34 t246 0).f0) ((rd_T34 t246 0).f1) ((rd_T34 t252 0).f0) ((rd_T34 t252 0).f1)).bind fun t258 => (if t258 = true then (some (((rd_T34 t252 0).f0) == t234)) else (some false))) else (none)) else (none)) else (some false)) else (some false))) else (some false))))) = some true := by rw [if_neg (show ¬ (false = true) by decide)] at H; exact H
      clear H
      have H := H1
      clear H1
      replace H := Option.bind_eq_some_iff.mp H
      obtain ⟨t246, A320, H⟩ := H
      replace H : ((impl_WinOf.f kj6 t224 t225 2 t227 t227 t229 t230 t231 t232 t233 t234).bind fun t249 => ((impl_WinOf.f kj6 t224 t225 3 t227 0 t229 t230 t231 t232 t233 t234).bind fun t252 => (if (t246.length : Int) = 1 then ((laws_frWins.f kj6 t246 t249).bind fun t255 => (if t255 = true then (if (t252.length : Int) = 1 then (if 0 < (t246.length : Int) then (if 0 < (t252.length : Int) then ((impl_WinTouch.f ((rd_T34 t246 0).f0) ((rd_T34 t246 0).f1) ((rd_T34 t252 0).f0) ((rd_T34 t252 0).f1)).bind fun t258 => (if t258 = true then (some (((rd_T34 t252 0).f0) == t234)) else (some false))) else (none)) else (none)) else (some false)) else (some false))) else (some false)))) = some true := H
      have A32 := Aside0.mk A320
      clear A320
      replace H := Option.bind_eq_some_iff.mp H
      obtain ⟨t249, A330, H⟩ := H
      replace H : ((impl_WinOf.f kj6 t224 t225 3 t227 0 t229 t230 t231 t232 t233 t234).bind fun t252 => (if (t246.length : Int) = 1 then ((laws_frWins.f kj6 t246 t249).bind fun t255 => (if t255 = true then (if (t252.length : Int) = 1 then (if 0 < (t246.length : Int) then (if 0 < (t252.length : Int) then ((impl_WinTouch.f ((rd_T34 t246 0).f0) ((rd_T34 t246 0).f1) ((rd_T34 t252 0).f0) ((rd_T34 t252 0).f1)).bind fun t258 => (if t258 = true then (some (((rd_T34 t252 0).f0) == t234)) else (some false))) else (none)) else (none)) else (some false)) else (some false))) else (some false))) = some true := H
      have A33 := Aside0.mk A330
      clear A330
      replace H := Option.bind_eq_some_iff.mp H
      obtain ⟨t252, A340, H⟩ := H
      replace H : (if (t246.length : Int) = 1 then ((laws_frWins.f kj6 t246 t249).bind fun t255 => (if t255 = true then (if (t252.length : Int) = 1 then (if 0 < (t246.length : Int) then (if 0 < (t252.length : Int) then ((impl_WinTouch.f ((rd_T34 t246 0).f0) ((rd_T34 t246 0).f1) ((rd_T34 t252 0).f0) ((rd_T34 t252 0).f1)).bind fun t258 => (if t258 = true then (some (((rd_T34 t252 0).f0) == t234)) else (some false))) else (none)) else (none)) else (some false)) else (some false))) else (some false)) = some true := H
      have A34 := Aside0.mk A340
      clear A340
      by_cases c35 : (t246.length : Int) = 1
      ·rw [if_pos c35] at H
       have c35b0 : ((t246.length : Int) == 1) = true := beq_iff_eq.mpr c35
       have c35b1 : ((t246.length : Int) != 1) = false := bne_eq_false_iff_eq.mpr c35
       clear c35
       replace H := Option.bind_eq_some_iff.mp H
       obtain ⟨t255, A360, H⟩ := H
       replace H : (if t255 = true then (if (t252.length : Int) = 1 then (if 0 < (t246.length : Int) then (if 0 < (t252.length : Int) then ((impl_WinTouch.f ((rd_T34 t246 0).f0) ((rd_T34 t246 0).f1) ((rd_T34 t252 0).f0) ((rd_T34 t252 0).f1)).bind fun t258 => (if t258 = true then (some (((rd_T34 t252 0).f0) == t234)) else (some false))) else (none)) else (none)) else (some false)) else (some false)) = some true := H
       have A36 := Aside0.mk A360
       clear A360
       by_cases c37 : t255 = true
       ·subst c37
        have H1 : (if (t252.length : Int) = 1 then (if 0 < (t246.length : Int) then (if 0 < (t252.length : Int) then ((impl_WinTouch.f ((rd_T34 t246 0).f0) ((rd_T34 t246 0).f1) ((rd_T34 t252 0).f0) ((rd_T34 t252 0).f1)).bind fun t258 => (if t258 = true then (some (((rd_T34 t252 0).f0) == t234)) else (some false))) else (none)) else (none)) else (some false)) = some true := by rw [if_pos rfl] at H; exact H
        clear H
        have H := H1
        clear H1
        by_cases c38 : (t252.length : Int) = 1
        ·rw [if_pos c38] at H
         have c38b0 : ((t252.length : Int) == 1) = true := beq_iff_eq.mpr c38
         have c38b1 : ((t252.length : Int) != 1) = false := bne_eq_false_iff_eq.mpr c38
         clear c38
         by_cases c39 : 0 < (t246.length : Int)
         ·rw [if_pos c39] at H
          have c39b0 : decide (0 < (t246.length : Int)) = true := decide_eq_true c39
          have c39b1 : decide (0 < t246.length) = true := decide_eq_true (by omega)
          clear c39
          by_cases c40 : 0 < (t252.length : Int)
          ·rw [if_pos c40] at H
           have c40b0 : decide (0 < (t252.length : Int)) = true := decide_eq_true c40
           have c40b1 : decide (0 < t252.length) = true := decide_eq_true (by omega)
           clear c40
           replace H := Option.bind_eq_some_iff.mp H
           obtain ⟨t258, A410, H⟩ := H
           replace H : (if t258 = true then (some (((rd_T34 t252 0).f0) == t234)) else (some false)) = some true := H
           have A41 := Aside0.mk A410
           clear A410
           by_cases c42 : t258 = true
           ·subst c42
            have H1 : (some (((rd_T34 t252 0).f0) == t234)) = some true := by rw [if_pos rfl] at H; exact H
            clear H
            have H := H1
            clear H1
            have hrt_ := Aside0.mk (Option.some.inj H)
            clear H
            try go_wp2
            have n0_ := Aside0.mk (blk_drew BK235.out)
            have n1_ := Aside0.mk (below_drew1 HB.out)
            clear BK235
            clear HB
            have BK235 := n0_
            have HB := n1_
            clear n0_ n1_
            refine start_ (n := 9) (S := fun w' => w'.cell? ⟨gb235, 0, none⟩ = some (.int .i64 t224) ∧ w'.cell? ⟨gb235, 1, none⟩ = some (.int .i64 t225) ∧ w'.cell? ⟨gb235, 2, none⟩ = some (.int .i64 t226) ∧ w'.cell? ⟨gb235, 3, none⟩ = some (.int .i64 t227) ∧ w'.cell? ⟨gb235, 4, none⟩ = some (.int .i64 t228) ∧ w'.cell? ⟨gb235, 5, none⟩ = some (.int .i64 t229) ∧ w'.cell? ⟨gb235, 6, none⟩ = some (.int .i64 t230) ∧ w'.cell? ⟨gb235, 7, none⟩ = some (.bool t231) ∧ w'.cell? ⟨gb235, 8, none⟩ = some (.int .i64 t232) ∧ w'.cell? ⟨gb235, 9, none⟩ = some (.int .i64 t233)) (ds := []) #[false, false, false, false, false, false, false, false, false] (by kernel_rfl) rfl rfl ⟨(blk_cell BK235.out 0).trans rfl, (blk_cell BK235.out 1).trans rfl, (blk_cell BK235.out 2).trans rfl, (blk_cell BK235.out 3).trans rfl, (blk_cell BK235.out 4).trans rfl, (blk_cell BK235.out 5).trans rfl, (blk_cell BK235.out 6).trans rfl, (blk_cell BK235.out 7).trans rfl, (blk_cell BK235.out 8).trans rfl, (blk_cell BK235.out 9).trans rfl⟩ (fun hHeld => ?_); refine with_tabW laws_FnWinStep.tab8 laws_FnWinStep.bits8 (fun HT_ HW_ => ?_)
            generalize wc.drew = w43 at BK235 HB hHeld ⊢
            refine take_ (i := 0) (N := some 43) (v := ?_) (a' := ?_) #[true, false, false, false, false, false, false, false, false] rfl rfl (take_ofW HT_.out HW_.out (by kernel_rfl)) (fun _ _ _ h => h) (Or.inl ⟨by rfl, ?_⟩) hHeld ?_ ?_
            rotate_left
            ·rintro w' ⟨s0, s1, s2, s3, s4, s5, s6, s7, s8, s9⟩
             go_simp
             with_reducible rfl
            rotate_left
            ·simp only [Act.put, List.setIfInBounds_toArray, List.set_cons_zero, List.set_cons_succ, i64_w, i32_w]
             rfl
            refine take_ (i := 1) (N := some 44) (v := ?_) (a' := ?_) #[true, true, false, false, false, false, false, false, false] rfl rfl (take_ofW HT_.out HW_.out (by kernel_rfl)) (fun _ _ _ h => h) (Or.inl ⟨by rfl, ?_⟩) hHeld ?_ ?_
            rotate_left
            ·rintro w' ⟨s0, s1, s2, s3, s4, s5, s6, s7, s8, s9⟩
             go_simp
             with_reducible rfl
            rotate_left
            ·simp only [Act.put, List.setIfInBounds_toArray, List.set_cons_zero, List.set_cons_succ, i64_w, i32_w]
             rfl
            refine take_ (i := 2) (N := some 45) (v := ?_) (a' := ?_) #[true, true, true, false, false, false, false, false, false] rfl rfl (take_ofW HT_.out HW_.out (by kernel_rfl)) (fun _ _ _ h => h) (Or.inl ⟨by rfl, ?_⟩) hHeld ?_ ?_
            rotate_left
            ·rintro w' ⟨s0, s1, s2, s3, s4, s5, s6, s7, s8, s9⟩
             go_simp
             with_reducible rfl
            rotate_left
            ·simp only [Act.put, List.setIfInBounds_toArray, List.set_cons_zero, List.set_cons_succ, i64_w, i32_w]
             rfl
            refine join_ (σ := Nat × Nat × Nat) 3 #[true, true, true, true, true, true, false, false, false] (fun s_ => [(5, .pointer (some ⟨s_.1, 0, none⟩)), (6, .pointer (some ⟨s_.2.1, 0, none⟩)), (7, .pointer (some ⟨s_.2.2, 0, none⟩))]) (fun s_ w' => (w'.cell? ⟨gb235, 0, none⟩ = some (.int .i64 t224) ∧ w'.cell? ⟨gb235, 1, none⟩ = some (.int .i64 t225) ∧ w'.cell? ⟨gb235, 2, none⟩ = some (.int .i64 t226) ∧ w'.cell? ⟨gb235, 3, none⟩ = some (.int .i64 t227) ∧ w'.cell? ⟨gb235, 4, none⟩ = some (.int .i64 t228) ∧ w'.cell? ⟨gb235, 5, none⟩ = some (.int .i64 t229) ∧ w'.cell? ⟨gb235, 6, none⟩ = some (.int .i64 t230) ∧ w'.cell? ⟨gb235, 7, none⟩ = some (.bool t231) ∧ w'.cell? ⟨gb235, 8, none⟩ = some (.int .i64 t232) ∧ w'.cell? ⟨gb235, 9, none⟩ = some (.int .i64 t233)) ∧ (w'.heap[gb235]? = some (.cells #[.int .i64 t224, .int .i64 t225, .int .i64 t226, .int .i64 t227, .int .i64 t228, .int .i64 t229, .int .i64 t230, .bool t231, .int .i64 t232, .int .i64 t233] 50 (0, 0))) ∧ (w'.heap[s_.1]? = some (.cells #[.int .i64 0, .int .i64 0, .int .i64 0, .int .i64 0, .int .i64 0, .int .i64 0, .int .i64 0, .bool false, .int .i64 0, .int .i64 0] 50 (0, 0))) ∧ (w'.heap[s_.2.1]? = some (.cells #[.int .i64 0, .int .i64 0, .int .i64 0, .int .i64 0, .int .i64 0, .int .i64 0, .int .i64 0, .bool false, .int .i64 0, .int .i64 0] 50 (0, 0))) ∧ (w'.heap[s_.2.2]? = some (.cells #[.int .i64 0, .int .i64 0, .int .i64 0, .int .i64 0, .int .i64 0, .int .i64 0, .int .i64 0, .bool false, .int .i64 0, .int .i64 0] 50 (0, 0))) ∧ (w.heap.size ≤ s_.1) ∧ (w.heap.size ≤ s_.1) ∧ (gb235 ≠ s_.1) ∧ (s_.1 ≠ gb235) ∧ (s_.2.1 ≠ s_.1) ∧ (s_.1 ≠ s_.2.1) ∧ (s_.2.2 ≠ s_.1) ∧ (s_.1 ≠ s_.2.2) ∧ (w.heap.size ≤ s_.2.1) ∧ (w.heap.size ≤ s_.2.1) ∧ (gb235 ≠ s_.2.1) ∧ (s_.2.1 ≠ gb235) ∧ (s_.2.2 ≠ s_.2.1) ∧ (s_.2.1 ≠ s_.2.2) ∧ (w.heap.size ≤ s_.2.2) ∧ (w.heap.size ≤ s_.2.2) ∧ (gb235 ≠ s_.2.2) ∧ (s_.2.2 ≠ gb235) ∧ (Below w.heap.size w w')) ?_ ?_
            rotate_left
            ·intro hJ3_4_5
             refine join_ (σ := Nat × Nat) 4 #[true, true, true, true, true, false, false, false, false] (fun s_ => [(5, .pointer (some ⟨s_.1, 0, none⟩)), (6, .pointer (some ⟨s_.2, 0, none⟩))]) (fun s_ w' => (w'.cell? ⟨gb235, 0, none⟩ = some (.int .i64 t224) ∧ w'.cell? ⟨gb235, 1, none⟩ = some (.int .i64 t225) ∧ w'.cell? ⟨gb235, 2, none⟩ = some (.int .i64 t226) ∧ w'.cell? ⟨gb235, 3, none⟩ = some (.int .i64 t227) ∧ w'.cell? ⟨gb235, 4, none⟩ = some (.int .i64 t228) ∧ w'.cell? ⟨gb235, 5, none⟩ = some (.int .i64 t229) ∧ w'.cell? ⟨gb235, 6, none⟩ = some (.int .i64 t230) ∧ w'.cell? ⟨gb235, 7, none⟩ = some (.bool t231) ∧ w'.cell? ⟨gb235, 8, none⟩ = some (.int .i64 t232) ∧ w'.cell? ⟨gb235, 9, none⟩ = some (.int .i64 t233)) ∧ (w'.heap[gb235]? = some (.cells #[.int .i64 t224, .int .i64 t225, .int .i64 t226, .int .i64 t227, .int .i64 t228, .int .i64 t229, .int .i64 t230, .bool t231, .int .i64 t232, .int .i64 t233] 50 (0, 0))) ∧ (w'.heap[s_.1]? = some (.cells #[.int .i64 0, .int .i64 0, .int .i64 0, .int .i64 0, .int .i64 0, .int .i64 0, .int .i64 0, .bool false, .int .i64 0, .int .i64 0] 50 (0, 0))) ∧ (w'.heap[s_.2]? = some (.cells #[.int .i64 0, .int .i64 0, .int .i64 0, .int .i64 0, .int .i64 0, .int .i64 0, .int .i64 0, .bool false, .int .i64 0, .int .i64 0] 50 (0, 0))) ∧ (w.heap.size ≤ s_.1) ∧ (w.heap.size ≤ s_.1) ∧ (gb235 ≠ s_.1) ∧ (s_.1 ≠ gb235) ∧ (s_.2 ≠ s_.1) ∧ (s_.1 ≠ s_.2) ∧ (w.heap.size ≤ s_.2) ∧ (w.heap.size ≤ s_.2) ∧ (gb235 ≠ s_.2) ∧ (s_.2 ≠ gb235) ∧ (Below w.heap.size w w')) ?_ ?_
             rotate_left
             ·intro hJ3_4
              refine join_ (σ := Nat × Nat) 4 #[true, true, true, true, false, true, false, false, false] (fun s_ => [(5, .pointer (some ⟨s_.1, 0, none⟩)), (7, .pointer (some ⟨s_.2, 0, none⟩))]) (fun s_ w' => (w'.cell? ⟨gb235, 0, none⟩ = some (.int .i64 t224) ∧ w'.cell? ⟨gb235, 1, none⟩ = some (.int .i64 t225) ∧ w'.cell? ⟨gb235, 2, none⟩ = some (.int .i64 t226) ∧ w'.cell? ⟨gb235, 3, none⟩ = some (.int .i64 t227) ∧ w'.cell? ⟨gb235, 4, none⟩ = some (.int .i64 t228) ∧ w'.cell? ⟨gb235, 5, none⟩ = some (.int .i64 t229) ∧ w'.cell? ⟨gb235, 6, none⟩ = some (.int .i64 t230) ∧ w'.cell? ⟨gb235, 7, none⟩ = some (.bool t231) ∧ w'.cell? ⟨gb235, 8, none⟩ = some (.int .i64 t232) ∧ w'.cell? ⟨gb235, 9, none⟩ = some (.int .i64 t233)) ∧ (w'.heap[gb235]? = some (.cells #[.int .i64 t224, .int .i64 t225, .int .i64 t226, .int .i64 t227, .int .i64 t228, .int .i64 t229, .int .i64 t230, .bool t231, .int .i64 t232, .int .i64 t233] 50 (0, 0))) ∧ (w'.heap[s_.1]? = some (.cells #[.int .i64 0, .int .i64 0, .int .i64 0, .int .i64 0, .int .i64 0, .int .i64 0, .int .i64 0, .bool false, .int .i64 0, .int .i64 0] 50 (0, 0))) ∧ (w'.heap[s_.2]? = some (.cells #[.int .i64 0, .int .i64 0, .int .i64 0, .int .i64 0, .int .i64 0, .int .i64 0, .int .i64 0, .bool false, .int .i64 0, .int .i64 0] 50 (0, 0))) ∧ (w.heap.size ≤ s_.1) ∧ (w.heap.size ≤ s_.1) ∧ (gb235 ≠ s_.1) ∧ (s_.1 ≠ gb235) ∧ (s_.2 ≠ s_.1) ∧ (s_.1 ≠ s_.2) ∧ (w.heap.size ≤ s_.2) ∧ (w.heap.size ≤ s_.2) ∧ (gb235 ≠ s_.2) ∧ (s_.2 ≠ gb235) ∧ (Below w.heap.size w w')) ?_ ?_
              rotate_left
              ·intro hJ3_5
               refine join_ (σ := Nat × Nat) 4 #[true, true, true, false, true, true, false, false, false] (fun s_ => [(6, .pointer (some ⟨s_.1, 0, none⟩)), (7, .pointer (some ⟨s_.2, 0, none⟩))]) (fun s_ w' => (w'.cell? ⟨gb235, 0, none⟩ = some (.int .i64 t224) ∧ w'.cell? ⟨gb235, 1, none⟩ = some (.int .i64 t225) ∧ w'.cell? ⟨gb235, 2, none⟩ = some (.int .i64 t226) ∧ w'.cell? ⟨gb235, 3, none⟩ = some (.int .i64 t227) ∧ w'.cell? ⟨gb235, 4, none⟩ = some (.int .i64 t228) ∧ w'.cell? ⟨gb235, 5, none⟩ = some (.int .i64 t229) ∧ w'.cell? ⟨gb235, 6, none⟩ = some (.int .i64 t230) ∧ w'.cell? ⟨gb235, 7, none⟩ = some (.bool t231) ∧ w'.cell? ⟨gb235, 8, none⟩ = some (.int .i64 t232) ∧ w'.cell? ⟨gb235, 9, none⟩ = some (.int .i64 t233)) ∧ (w'.heap[gb235]? = some (.cells #[.int .i64 t224, .int .i64 t225, .int .i64 t226, .int .i64 t227, .int .i64 t228, .int .i64 t229, .int .i64 t230, .bool t231, .int .i64 t232, .int .i64 t233] 50 (0, 0))) ∧ (w'.heap[s_.1]? = some (.cells #[.int .i64 0, .int .i64 0, .int .i64 0, .int .i64 0, .int .i64 0, .int .i64 0, .int .i64 0, .bool false, .int .i64 0, .int .i64 0] 50 (0, 0))) ∧ (w'.heap[s_.2]? = some (.cells #[.int .i64 0, .int .i64 0, .int .i64 0, .int .i64 0, .int .i64 0, .int .i64 0, .int .i64 0, .bool false, .int .i64 0, .int .i64 0] 50 (0, 0))) ∧ (w.heap.size ≤ s_.1) ∧ (w.heap.size ≤ s_.1) ∧ (gb235 ≠ s_.1) ∧ (s_.1 ≠ gb235) ∧ (s_.2 ≠ s_.1) ∧ (s_.1 ≠ s_.2) ∧ (w.heap.size ≤ s_.2) ∧ (w.heap.size ≤ s_.2) ∧ (gb235 ≠ s_.2) ∧ (s_.2 ≠ gb235) ∧ (Below w.heap.size w w')) ?_ ?_
               rotate_left
               ·intro hJ4_5
                refine join_ (σ := Nat) 5 #[true, true, true, true, false, false, false, false, false] (fun s_ => [(5, .pointer (some ⟨s_, 0, none⟩))]) (fun s_ w' => (w'.cell? ⟨gb235, 0, none⟩ = some (.int .i64 t224) ∧ w'.cell? ⟨gb235, 1, none⟩ = some (.int .i64 t225) ∧ w'.cell? ⟨gb235, 2, none⟩ = some (.int .i64 t226) ∧ w'.cell? ⟨gb235, 3, none⟩ = some (.int .i64 t227) ∧ w'.cell? ⟨gb235, 4, none⟩ = some (.int .i64 t228) ∧ w'.cell? ⟨gb235, 5, none⟩ = some (.int .i64 t229) ∧ w'.cell? ⟨gb235, 6, none⟩ = some (.int .i64 t230) ∧ w'.cell? ⟨gb235, 7, none⟩ = some (.bool t231) ∧ w'.cell? ⟨gb235, 8, none⟩ = some (.int .i64 t232) ∧ w'.cell? ⟨gb235, 9, none⟩ = some (.int .i64 t233)) ∧ (w'.heap[gb235]? = some (.cells #[.int .i64 t224, .int .i64 t225, .int .i64 t226, .int .i64 t227, .int .i64 t228, .int .i64 t229, .int .i64 t230, .bool t231, .int .i64 t232, .int .i64 t233] 50 (0, 0))) ∧ (w'.heap[s_]? = some (.cells #[.int .i64 0, .int .i64 0, .int .i64 0, .int .i64 0, .int .i64 0, .int .i64 0, .int .i64 0, .bool false, .int .i64 0, .int .i64 0] 50 (0, 0))) ∧ (w.heap.size ≤ s_) ∧ (w.heap.size ≤ s_) ∧ (gb235 ≠ s_) ∧ (s_ ≠ gb235) ∧ (Below w.heap.size w w')) ?_ ?_
                rotate_left
                ·intro hJ3
                 refine join_ (σ := Nat) 5 #[true, true, true, false, true, false, false, false, false] (fun s_ => [(6, .pointer (some ⟨s_, 0, none⟩))]) (fun s_ w' => (w'.cell? ⟨gb235, 0, none⟩ = some (.int .i64 t224) ∧ w'.cell? ⟨gb235, 1, none⟩ = some (.int .i64 t225) ∧ w'.cell? ⟨gb235, 2, none⟩ = some (.int .i64 t226) ∧ w'.cell? ⟨gb235, 3, none⟩ = some (.int .i64 t227) ∧ w'.cell? ⟨gb235, 4, none⟩ = some (.int .i64 t228) ∧ w'.cell? ⟨gb235, 5, none⟩ = some (.int .i64 t229) ∧ w'.cell? ⟨gb235, 6, none⟩ = some (.int .i64 t230) ∧ w'.cell? ⟨gb235, 7, none⟩ = some (.bool t231) ∧ w'.cell? ⟨gb235, 8, none⟩ = some (.int .i64 t232) ∧ w'.cell? ⟨gb235, 9, none⟩ = some (.int .i64 t233)) ∧ (w'.heap[gb235]? = some (.cells #[.int .i64 t224, .int .i64 t225, .int .i64 t226, .int .i64 t227, .int .i64 t228, .int .i64 t229, .int .i64 t230, .bool t231, .int .i64 t232, .int .i64 t233] 50 (0, 0))) ∧ (w'.heap[s_]? = some (.cells #[.int .i64 0, .int .i64 0, .int .i64 0, .int .i64 0, .int .i64 0, .int .i64 0, .int .i64 0, .bool false, .int .i64 0, .int .i64 0] 50 (0, 0))) ∧ (w.heap.size ≤ s_) ∧ (w.heap.size ≤ s_) ∧ (gb235 ≠ s_) ∧ (s_ ≠ gb235) ∧ (Below w.heap.size w w')) ?_ ?_
                 rotate_left
                 ·intro hJ4
                  refine join_ (σ := Nat) 5 #[true, true, true, false, false, true, false, false, false] (fun s_ => [(7, .pointer (some ⟨s_, 0, none⟩))]) (fun s_ w' => (w'.cell? ⟨gb235, 0, none⟩ = some (.int .i64 t224) ∧ w'.cell? ⟨gb235, 1, none⟩ = some (.int .i64 t225) ∧ w'.cell? ⟨gb235, 2, none⟩ = some (.int .i64 t226) ∧ w'.cell? ⟨gb235, 3, none⟩ = some (.int .i64 t227) ∧ w'.cell? ⟨gb235, 4, none⟩ = some (.int .i64 t228) ∧ w'.cell? ⟨gb235, 5, none⟩ = some (.int .i64 t229) ∧ w'.cell? ⟨gb235, 6, none⟩ = some (.int .i64 t230) ∧ w'.cell? ⟨gb235, 7, none⟩ = some (.bool t231) ∧ w'.cell? ⟨gb235, 8, none⟩ = some (.int .i64 t232) ∧ w'.cell? ⟨gb235, 9, none⟩ = some (.int .i64 t233)) ∧ (w'.heap[gb235]? = some (.cells #[.int .i64 t224, .int .i64 t225, .int .i64 t226, .int .i64 t227, .int .i64 t228, .int .i64 t229, .int .i64 t230, .bool t231, .int .i64 t232, .int .i64 t233] 50 (0, 0))) ∧ (w'.heap[s_]? = some (.cells #[.int .i64 0, .int .i64 0, .int .i64 0, .int .i64 0, .int .i64 0, .int .i64 0, .int .i64 0, .bool false, .int .i64 0, .int .i64 0] 50 (0, 0))) ∧ (w.heap.size ≤ s_) ∧ (w.heap.size ≤ s_) ∧ (gb235 ≠ s_) ∧ (s_ ≠ gb235) ∧ (Below w.heap.size w w')) ?_ ?_
                  rotate_left
                  ·intro hJ5
                   refine three_ (i := 3) (j := 4) (k := 5) (Ni := some 5) (Nj := some 6) (Nk := some 7) #[true, true, true, true, false, false, false, false, false] #[true, true, true, false, true, false, false, false, false] #[true, true, true, false, false, true, false, false, false] rfl rfl rfl rfl rfl rfl (three_of HT_.out (by kernel_rfl)) (by decide) (by decide) (by decide) (fun K hK => ?_) (fun K hK => ?_) (fun K hK => ?_)
                   ·skip
                    refine box_step ?hg (N := 5) ?hd (cs := #[.int .i64 0, .int .i64 0, .int .i64 0, .int .i64 0, .int .i64 0, .int .i64 0, .int .i64 0, .bool false, .int .i64 0, .int .i64 0]) (t := 50) ?hr ?_; (case hd => rfl); (case hg => rfl); (case hr => first | (go_simp; done) | (go_simp; rfl))
                    intro gb243 hg w44 hbox hb
                    have n0_ := Aside0.mk (blk_below (g := gb235) (o := .cells #[.int .i64 t224, .int .i64 t225, .int .i64 t226, .int .i64 t227, .int .i64 t228, .int .i64 t229, .int .i64 t230, .bool t231, .int .i64 t232, .int .i64 t233] 50 (0, 0)) (by (with_reducible repeat (first | refine blk_drewN ?_ _ | refine blk_drew ?_ | refine blk_alloc ?_ _)); exact BK235.out) hb)
                    have n1_ := Aside0.mk (below_step (by repeat (first | (with_reducible first | exact HB.out | apply below_alloc | apply pw_below_drewN | apply below_drew1 | refine below_set ?_ GE235.out) | exact HB.out)) hb)
                    have n2_ := Aside0.mk (hbox)
                    have n3_ := Aside0.mk ((by rw [hg]; exact (below_size (by repeat (first | (with_reducible first | exact HB.out | apply below_alloc | apply pw_below_drewN | apply below_drew1 | refine below_set ?_ GE235.out) | exact HB.out))) : w.heap.size ≤ gb243))
                    have n4_ := Aside0.mk ((by rw [hg]; exact (below_size (by repeat (first | (with_reducible first | exact HB.out | apply below_alloc | apply pw_below_drewN | apply below_drew1 | refine below_set ?_ GE235.out) | exact HB.out))) : w.heap.size ≤ gb243))
                    have n5_ := Aside0.mk ((by rw [hg]; exact Nat.ne_of_lt (blk_lt (g := gb235) (o := .cells #[.int .i64 t224, .int .i64 t225, .int .i64 t226, .int .i64 t227, .int .i64 t228, .int .i64 t229, .int .i64 t230, .bool t231, .int .i64 t232, .int .i64 t233] 50 (0, 0)) (by (with_reducible repeat (first | refine blk_drewN ?_ _ | refine blk_drew ?_ | refine blk_alloc ?_ _)); exact BK235.out)) : gb235 ≠ gb243))
                    have n6_ := Aside0.mk ((by rw [hg]; exact Nat.ne_of_gt (blk_lt (g := gb235) (o := .cells #[.int .i64 t224, .int .i64 t225, .int .i64 t226, .int .i64 t227, .int .i64 t228, .int .i64 t229, .int .i64 t230, .bool t231, .int .i64 t232, .int .i64 t233] 50 (0, 0)) (by (with_reducible repeat (first | refine blk_drewN ?_ _ | refine blk_drew ?_ | refine blk_alloc ?_ _)); exact BK235.out)) : gb243 ≠ gb235))
                    clear BK235
                    clear HB
                    have BK235 := n0_
                    have HB := n1_
                    have BK243 := n2_
                    have GW243 := n3_
                    have GE243 := n4_
                    have NB235_243 := n5_
                    have NB243_235 := n6_
                    clear n0_ n1_ n2_ n3_ n4_ n5_ n6_
                    clear hb hbox hg
                    refine hK.out _ _ ⟨(blk_cell BK235.out 0).trans rfl, (blk_cell BK235.out 1).trans rfl, (blk_cell BK235.out 2).trans rfl, (blk_cell BK235.out 3).trans rfl, (blk_cell BK235.out 4).trans rfl, (blk_cell BK235.out 5).trans rfl, (blk_cell BK235.out 6).trans rfl, (blk_cell BK235.out 7).trans rfl, (blk_cell BK235.out 8).trans rfl, (blk_cell BK235.out 9).trans rfl⟩ (fun hHeld => ?_)
                    clear hK K
                    refine norm_ (a' := ?_) ?_ ?_
                    rotate_left
                    ·show Act.put _ (some 5) _ = _
                     simp only [Act.put, List.setIfInBounds_toArray, List.set_cons_zero, List.set_cons_succ, i64_w, i32_w]
                     rfl
                    exact norm_ (by first | (simp only [putAll, Act.put, List.setIfInBounds_toArray, List.set_cons_zero, List.set_cons_succ]; done) | (simp only [putAll, Act.put, List.setIfInBounds_toArray, List.set_cons_zero, List.set_cons_succ]; rfl)) (hJ3 (gb243) _ ⟨hHeld, (by (with_reducible repeat (first | refine blk_drewN ?_ _ | refine blk_drew ?_ | refine blk_alloc ?_ _)); exact BK235.out), (by (with_reducible repeat (first | refine blk_drewN ?_ _ | refine blk_drew ?_ | refine blk_alloc ?_ _)); exact BK243.out), GW243.out, GE243.out, NB235_243.out, NB243_235.out, (by repeat (first | (with_reducible first | exact HB.out | apply below_alloc | apply pw_below_drewN | apply below_drew1 | refine below_set ?_ GE235.out | refine below_set ?_ GE243.out) | exact HB.out))⟩)
                   ·skip
                    refine box_step ?hg (N := 6) ?hd (cs := #[.int .i64 0, .int .i64 0, .int .i64 0, .int .i64 0, .int .i64 0, .int .i64 0, .int .i64 0, .bool false, .int .i64 0, .int .i64 0]) (t := 50) ?hr ?_; (case hd => rfl); (case hg => rfl); (case hr => first | (go_simp; done) | (go_simp; rfl))
                    intro gb244 hg w44 hbox hb
                    have n0_ := Aside0.mk (blk_below (g := gb235) (o := .cells #[.int .i64 t224, .int .i64 t225, .int .i64 t226, .int .i64 t227, .int .i64 t228, .int .i64 t229, .int .i64 t230, .bool t231, .int .i64 t232, .int .i64 t233] 50 (0, 0)) (by (with_reducible repeat (first | refine blk_drewN ?_ _ | refine blk_drew ?_ | refine blk_alloc ?_ _)); exact BK235.out) hb)
                    have n1_ := Aside0.mk (below_step (by repeat (first | (with_reducible first | exact HB.out | apply below_alloc | apply pw_below_drewN | apply below_drew1 | refine below_set ?_ GE235.out) | exact HB.out)) hb)
                    have n2_ := Aside0.mk (hbox)
                    have n3_ := Aside0.mk ((by rw [hg]; exact (below_size (by repeat (first | (with_reducible first | exact HB.out | apply below_alloc | apply pw_below_drewN | apply below_drew1 | refine below_set ?_ GE235.out) | exact HB.out))) : w.heap.size ≤ gb244))
                    have n4_ := Aside0.mk ((by rw [hg]; exact (below_size (by repeat (first | (with_reducible first | exact HB.out | apply below_alloc | apply pw_below_drewN | apply below_drew1 | refine below_set ?_ GE235.out) | exact HB.out))) : w.heap.size ≤ gb244))
                    have n5_ := Aside0.mk ((by rw [hg]; exact Nat.ne_of_lt (blk_lt (g := gb235) (o := .cells #[.int .i64 t224, .int .i64 t225, .int .i64 t226, .int .i64 t227, .int .i64 t228, .int .i64 t229, .int .i64 t230, .bool t231, .int .i64 t232, .int .i64 t233] 50 (0, 0)) (by (with_reducible repeat (first | refine blk_drewN ?_ _ | refine blk_drew ?_ | refine blk_alloc ?_ _)); exact BK235.out)) : gb235 ≠ gb244))
                    have n6_ := Aside0.mk ((by rw [hg]; exact Nat.ne_of_gt (blk_lt (g := gb235) (o := .cells #[.int .i64 t224, .int .i64 t225, .int .i64 t226, .int .i64 t227, .int .i64 t228, .int .i64 t229, .int .i64 t230, .bool t231, .int .i64 t232, .int .i64 t233] 50 (0, 0)) (by (with_reducible repeat (first | refine blk_drewN ?_ _ | refine blk_drew ?_ | refine blk_alloc ?_ _)); exact BK235.out)) : gb244 ≠ gb235))
                    clear BK235
                    clear HB
                    have BK235 := n0_
                    have HB := n1_
                    have BK244 := n2_
                    have GW244 := n3_
                    have GE244 := n4_
                    have NB235_244 := n5_
                    have NB244_235 := n6_
                    clear n0_ n1_ n2_ n3_ n4_ n5_ n6_
                    clear hb hbox hg
                    refine hK.out _ _ ⟨(blk_cell BK235.out 0).trans rfl, (blk_cell BK235.out 1).trans rfl, (blk_cell BK235.out 2).trans rfl, (blk_cell BK235.out 3).trans rfl, (blk_cell BK235.out 4).trans rfl, (blk_cell BK235.out 5).trans rfl, (blk_cell BK235.out 6).trans rfl, (blk_cell BK235.out 7).trans rfl, (blk_cell BK235.out 8).trans rfl, (blk_cell BK235.out 9).trans rfl⟩ (fun hHeld => ?_)
                    clear hK K
                    refine norm_ (a' := ?_) ?_ ?_
                    rotate_left
                    ·show Act.put _ (some 6) _ = _
                     simp only [Act.put, List.setIfInBounds_toArray, List.set_cons_zero, List.set_cons_succ, i64_w, i32_w]
                     rfl
                    exact norm_ (by first | (simp only [putAll, Act.put, List.setIfInBounds_toArray, List.set_cons_zero, List.set_cons_succ]; done) | (simp only [putAll, Act.put, List.setIfInBounds_toArray, List.set_cons_zero, List.set_cons_succ]; rfl)) (hJ4 (gb244) _ ⟨hHeld, (by (with_reducible repeat (first | refine blk_drewN ?_ _ | refine blk_drew ?_ | refine blk_alloc ?_ _)); exact BK235.out), (by (with_reducible repeat (first | refine blk_drewN ?_ _ | refine blk_drew ?_ | refine blk_alloc ?_ _)); exact BK244.out), GW244.out, GE244.out, NB235_244.out, NB244_235.out, (by repeat (first | (with_reducible first | exact HB.out | apply below_alloc | apply pw_below_drewN | apply below_drew1 | refine below_set ?_ GE235.out | refine below_set ?_ GE244.out) | exact HB.out))⟩)
                   ·skip
                    refine box_step ?hg (N := 7) ?hd (cs := #[.int .i64 0, .int .i64 0, .int .i64 0, .int .i64 0, .int .i64 0, .int .i64 0, .int .i64 0, .bool false, .int .i64 0, .int .i64 0]) (t := 50) ?hr ?_; (case hd => rfl); (case hg => rfl); (case hr => first | (go_simp; done) | (go_simp; rfl))
                    intro gb245 hg w44 hbox hb
                    have n0_ := Aside0.mk (blk_below (g := gb235) (o := .cells #[.int .i64 t224, .int .i64 t225, .int .i64 t226, .int .i64 t227, .int .i64 t228, .int .i64 t229, .int .i64 t230, .bool t231, .int .i64 t232, .int .i64 t233] 50 (0, 0)) (by (with_reducible repeat (first | refine blk_drewN ?_ _ | refine blk_drew ?_ | refine blk_alloc ?_ _)); exact BK235.out) hb)
                    have n1_ := Aside0.mk (below_step (by repeat (first | (with_reducible first | exact HB.out | apply below_alloc | apply pw_below_drewN | apply below_drew1 | refine below_set ?_ GE235.out) | exact HB.out)) hb)
                    have n2_ := Aside0.mk (hbox)
                    have n3_ := Aside0.mk ((by rw [hg]; exact (below_size (by repeat (first | (with_reducible first | exact HB.out | apply below_alloc | apply pw_below_drewN | apply below_drew1 | refine below_set ?_ GE235.out) | exact HB.out))) : w.heap.size ≤ gb245))
                    have n4_ := Aside0.mk ((by rw [hg]; exact (below_size (by repeat (first | (with_reducible first | exact HB.out | apply below_alloc | apply pw_below_drewN | apply below_drew1 | refine below_set ?_ GE235.out) | exact HB.out))) : w.heap.size ≤ gb245))
                    have n5_ := Aside0.mk ((by rw [hg]; exact Nat.ne_of_lt (blk_lt (g := gb235) (o := .cells #[.int .i64 t224, .int .i64 t225, .int .i64 t226, .int .i64 t227, .int .i64 t228, .int .i64 t229, .int .i64 t230, .bool t231, .int .i64 t232, .int .i64 t233] 50 (0, 0)) (by (with_reducible repeat (first | refine blk_drewN ?_ _ | refine blk_drew ?_ | refine blk_alloc ?_ _)); exact BK235.out)) : gb235 ≠ gb245))
                    have n6_ := Aside0.mk ((by rw [hg]; exact Nat.ne_of_gt (blk_lt (g := gb235) (o := .cells #[.int .i64 t224, .int .i64 t225, .int .i64 t226, .int .i64 t227, .int .i64 t228, .int .i64 t229, .int .i64 t230, .bool t231, .int .i64 t232, .int .i64 t233] 50 (0, 0)) (by (with_reducible repeat (first | refine blk_drewN ?_ _ | refine blk_drew ?_ | refine blk_alloc ?_ _)); exact BK235.out)) : gb245 ≠ gb235))
                    clear BK235
                    clear HB
                    have BK235 := n0_
                    have HB := n1_
                    have BK245 := n2_
                    have GW245 := n3_
                    have GE245 := n4_
                    have NB235_245 := n5_
                    have NB245_235 := n6_
                    clear n0_ n1_ n2_ n3_ n4_ n5_ n6_
                    clear hb hbox hg
                    refine hK.out _ _ ⟨(blk_cell BK235.out 0).trans rfl, (blk_cell BK235.out 1).trans rfl, (blk_cell BK235.out 2).trans rfl, (blk_cell BK235.out 3).trans rfl, (blk_cell BK235.out 4).trans rfl, (blk_cell BK235.out 5).trans rfl, (blk_cell BK235.out 6).trans rfl, (blk_cell BK235.out 7).trans rfl, (blk_cell BK235.out 8).trans rfl, (blk_cell BK235.out 9).trans rfl⟩ (fun hHeld => ?_)
                    clear hK K
                    refine norm_ (a' := ?_) ?_ ?_
                    rotate_left
                    ·show Act.put _ (some 7) _ = _
                     simp only [Act.put, List.setIfInBounds_toArray, List.set_cons_zero, List.set_cons_succ, i64_w, i32_w]
                     rfl
                    exact norm_ (by first | (simp only [putAll, Act.put, List.setIfInBounds_toArray, List.set_cons_zero, List.set_cons_succ]; done) | (simp only [putAll, Act.put, List.setIfInBounds_toArray, List.set_cons_zero, List.set_cons_succ]; rfl)) (hJ5 (gb245) _ ⟨hHeld, (by (with_reducible repeat (first | refine blk_drewN ?_ _ | refine blk_drew ?_ | refine blk_alloc ?_ _)); exact BK235.out), (by (with_reducible repeat (first | refine blk_drewN ?_ _ | refine blk_drew ?_ | refine blk_alloc ?_ _)); exact BK245.out), GW245.out, GE245.out, NB235_245.out, NB245_235.out, (by repeat (first | (with_reducible first | exact HB.out | apply below_alloc | apply pw_below_drewN | apply below_drew1 | refine below_set ?_ GE235.out | refine below_set ?_ GE245.out) | exact HB.out))⟩)
                  ·skip
                   rintro gb245 w45 ⟨hS_, h0_, h1_, h2_, h3_, h4_, h5_, h6_⟩
                   have n0_ : Aside0 (w45.heap[gb235]? = some (.cells #[.int .i64 t224, .int .i64 t225, .int .i64 t226, .int .i64 t227, .int .i64 t228, .int .i64 t229, .int .i64 t230, .bool t231, .int .i64 t232, .int .i64 t233] 50 (0, 0))) := ⟨h0_⟩
                   have n1_ : Aside0 (w45.heap[gb245]? = some (.cells #[.int .i64 0, .int .i64 0, .int .i64 0, .int .i64 0, .int .i64 0, .int .i64 0, .int .i64 0, .bool false, .int .i64 0, .int .i64 0] 50 (0, 0))) := ⟨h1_⟩
                   have n2_ : Aside0 (w.heap.size ≤ gb245) := ⟨h2_⟩
                   have n3_ : Aside0 (w.heap.size ≤ gb245) := ⟨h3_⟩
                   have n4_ : Aside0 (gb235 ≠ gb245) := ⟨h4_⟩
                   have n5_ : Aside0 (gb245 ≠ gb235) := ⟨h5_⟩
                   have n6_ : Aside0 (Below w.heap.size w w45) := ⟨h6_⟩
                   clear BK235
                   clear HB
                   clear h0_ h1_ h2_ h3_ h4_ h5_ h6_
                   have BK235 := n0_
                   have BK245 := n1_
                   have GW245 := n2_
                   have GE245 := n3_
                   have NB235_245 := n4_
                   have NB245_235 := n5_
                   have HB := n6_
                   clear n0_ n1_ n2_ n3_ n4_ n5_ n6_
                   have hHeld : w45.cell? ⟨gb235, 0, none⟩ = some (.int .i64 t224) ∧ w45.cell? ⟨gb235, 1, none⟩ = some (.int .i64 t225) ∧ w45.cell? ⟨gb235, 2, none⟩ = some (.int .i64 t226) ∧ w45.cell? ⟨gb235, 3, none⟩ = some (.int .i64 t227) ∧ w45.cell? ⟨gb235, 4, none⟩ = some (.int .i64 t228) ∧ w45.cell? ⟨gb235, 5, none⟩ = some (.int .i64 t229) ∧ w45.cell? ⟨gb235, 6, none⟩ = some (.int .i64 t230) ∧ w45.cell? ⟨gb235, 7, none⟩ = some (.bool t231) ∧ w45.cell? ⟨gb235, 8, none⟩ = some (.int .i64 t232) ∧ w45.cell? ⟨gb235, 9, none⟩ = some (.int .i64 t233) := hS_
                   refine norm_ (a' := ?_) ?_ ?_
                   rotate_left
                   ·simp only [putAll, Act.put, List.setIfInBounds_toArray, List.set_cons_zero, List.set_cons_succ]
                    rfl
                   refine two_ (i := 3) (j := 4) (Ni := some 5) (Nj := some 6) #[true, true, true, true, false, true, false, false, false] #[true, true, true, false, true, true, false, false, false] rfl rfl rfl rfl (two_of HT_.out (by kernel_rfl)) (by decide) (by decide) (fun K hK => ?_) (fun K hK => ?_)
                   ·skip
                    refine box_step ?hg (N := 5) ?hd (cs := #[.int .i64 0, .int .i64 0, .int .i64 0, .int .i64 0, .int .i64 0, .int .i64 0, .int .i64 0, .bool false, .int .i64 0, .int .i64 0]) (t := 50) ?hr ?_; (case hd => rfl); (case hg => rfl); (case hr => first | (go_simp; done) | (go_simp; rfl))
                    intro gb243 hg w46 hbox hb
                    have n0_ := Aside0.mk (blk_below (g := gb235) (o := .cells #[.int .i64 t224, .int .i64 t225, .int .i64 t226, .int .i64 t227, .int .i64 t228, .int .i64 t229, .int .i64 t230, .bool t231, .int .i64 t232, .int .i64 t233] 50 (0, 0)) (by (with_reducible repeat (first | refine blk_drewN ?_ _ | refine blk_drew ?_ | refine blk_alloc ?_ _)); exact BK235.out) hb)
                    have n1_ := Aside0.mk (blk_below (g := gb245) (o := .cells #[.int .i64 0, .int .i64 0, .int .i64 0, .int .i64 0, .int .i64 0, .int .i64 0, .int .i64 0, .bool false, .int .i64 0, .int .i64 0] 50 (0, 0)) (by (with_reducible repeat (first | refine blk_drewN ?_ _ | refine blk_drew ?_ | refine blk_alloc ?_ _)); exact BK245.out) hb)
                    have n2_ := Aside0.mk (below_step (by repeat (first | (with_reducible first | exact HB.out | apply below_alloc | apply pw_below_drewN | apply below_drew1 | refine below_set ?_ GE235.out | refine below_set ?_ GE245.out) | exact HB.out)) hb)
                    have n3_ := Aside0.mk (hbox)
                    have n4_ := Aside0.mk ((by rw [hg]; exact (below_size (by repeat (first | (with_reducible first | exact HB.out | apply below_alloc | apply pw_below_drewN | apply below_drew1 | refine below_set ?_ GE235.out | refine below_set ?_ GE245.out) | exact HB.out))) : w.heap.size ≤ gb243))
                    have n5_ := Aside0.mk ((by rw [hg]; exact (below_size (by repeat (first | (with_reducible first | exact HB.out | apply below_alloc | apply pw_below_drewN | apply below_drew1 | refine below_set ?_ GE235.out | refine below_set ?_ GE245.out) | exact HB.out))) : w.heap.size ≤ gb243))
                    have n6_ := Aside0.mk ((by rw [hg]; exact Nat.ne_of_lt (blk_lt (g := gb235) (o := .cells #[.int .i64 t224, .int .i64 t225, .int .i64 t226, .int .i64 t227, .int .i64 t228, .int .i64 t229, .int .i64 t230, .bool t231, .int .i64 t232, .int .i64 t233] 50 (0, 0)) (by (with_reducible repeat (first | refine blk_drewN ?_ _ | refine blk_drew ?_ | refine blk_alloc ?_ _)); exact BK235.out)) : gb235 ≠ gb243))
                    have n7_ := Aside0.mk ((by rw [hg]; exact Nat.ne_of_gt (blk_lt (g := gb235) (o := .cells #[.int .i64 t224, .int .i64 t225, .int .i64 t226, .int .i64 t227, .int .i64 t228, .int .i64 t229, .int .i64 t230, .bool t231, .int .i64 t232, .int .i64 t233] 50 (0, 0)) (by (with_reducible repeat (first | refine blk_drewN ?_ _ | refine blk_drew ?_ | refine blk_alloc ?_ _)); exact BK235.out)) : gb243 ≠ gb235))
                    have n8_ := Aside0.mk ((by rw [hg]; exact Nat.ne_of_lt (blk_lt (g := gb245) (o := .cells #[.int .i64 0, .int .i64 0, .int .i64 0, .int .i64 0, .int .i64 0, .int .i64 0, .int .i64 0, .bool false, .int .i64 0, .int .i64 0] 50 (0, 0)) (by (with_reducible repeat (first | refine blk_drewN ?_ _ | refine blk_drew ?_ | refine blk_alloc ?_ _)); exact BK245.out)) : gb245 ≠ gb243))
                    have n9_ := Aside0.mk ((by rw [hg]; exact Nat.ne_of_gt (blk_lt (g := gb245) (o := .cells #[.int .i64 0, .int .i64 0, .int .i64 0, .int .i64 0, .int .i64 0, .int .i64 0, .int .i64 0, .bool false, .int .i64 0, .int .i64 0] 50 (0, 0)) (by (with_reducible repeat (first | refine blk_drewN ?_ _ | refine blk_drew ?_ | refine blk_alloc ?_ _)); exact BK245.out)) : gb243 ≠ gb245))
                    clear BK235
                    clear BK245
                    clear HB
                    have BK235 := n0_
                    have BK245 := n1_
                    have HB := n2_
                    have BK243 := n3_
                    have GW243 := n4_
                    have GE243 := n5_
                    have NB235_243 := n6_
                    have NB243_235 := n7_
                    have NB245_243 := n8_
                    have NB243_245 := n9_
                    clear n0_ n1_ n2_ n3_ n4_ n5_ n6_ n7_ n8_ n9_
                    clear hb hbox hg
                    refine hK.out _ _ ⟨(blk_cell BK235.out 0).trans rfl, (blk_cell BK235.out 1).trans rfl, (blk_cell BK235.out 2).trans rfl, (blk_cell BK235.out 3).trans rfl, (blk_cell BK235.out 4).trans rfl, (blk_cell BK235.out 5).trans rfl, (blk_cell BK235.out 6).trans rfl, (blk_cell BK235.out 7).trans rfl, (blk_cell BK235.out 8).trans rfl, (blk_cell BK235.out 9).trans rfl⟩ (fun hHeld => ?_)
                    clear hK K
                    refine norm_ (a' := ?_) ?_ ?_
                    rotate_left
                    ·show Act.put _ (some 5) _ = _
                     simp only [Act.put, List.setIfInBounds_toArray, List.set_cons_zero, List.set_cons_succ, i64_w, i32_w]
                     rfl
                    exact norm_ (by first | (simp only [putAll, Act.put, List.setIfInBounds_toArray, List.set_cons_zero, List.set_cons_succ]; done) | (simp only [putAll, Act.put, List.setIfInBounds_toArray, List.set_cons_zero, List.set_cons_succ]; rfl)) (hJ3_5 (gb243, gb245) _ ⟨hHeld, (by (with_reducible repeat (first | refine blk_drewN ?_ _ | refine blk_drew ?_ | refine blk_alloc ?_ _)); exact BK235.out), (by (with_reducible repeat (first | refine blk_drewN ?_ _ | refine blk_drew ?_ | refine blk_alloc ?_ _)); exact BK243.out), (by (with_reducible repeat (first | refine blk_drewN ?_ _ | refine blk_drew ?_ | refine blk_alloc ?_ _)); exact BK245.out), GW243.out, GE243.out, NB235_243.out, NB243_235.out, NB245_243.out, NB243_245.out, GW245.out, GE245.out, NB235_245.out, NB245_235.out, (by repeat (first | (with_reducible first | exact HB.out | apply below_alloc | apply pw_below_drewN | apply below_drew1 | refine below_set ?_ GE235.out | refine below_set ?_ GE245.out | refine below_set ?_ GE243.out) | exact HB.out))⟩)
                   ·skip
                    refine box_step ?hg (N := 6) ?hd (cs := #[.int .i64 0, .int .i64 0, .int .i64 0, .int .i64 0, .int .i64 0, .int .i64 0, .int .i64 0, .bool false, .int .i64 0, .int .i64 0]) (t := 50) ?hr ?_; (case hd => rfl); (case hg => rfl); (case hr => first | (go_simp; done) | (go_simp; rfl))
                    intro gb244 hg w46 hbox hb
                    have n0_ := Aside0.mk (blk_below (g := gb235) (o := .cells #[.int .i64 t224, .int .i64 t225, .int .i64 t226, .int .i64 t227, .int .i64 t228, .int .i64 t229, .int .i64 t230, .bool t231, .int .i64 t232, .int .i64 t233] 50 (0, 0)) (by (with_reducible repeat (first | refine blk_drewN ?_ _ | refine blk_drew ?_ | refine blk_alloc ?_ _)); exact BK235.out) hb)
                    have n1_ := Aside0.mk (blk_below (g := gb245) (o := .cells #[.int .i64 0, .int .i64 0, .int .i64 0, .int .i64 0, .int .i64 0, .int .i64 0, .int .i64 0, .bool false, .int .i64 0, .int .i64 0] 50 (0, 0)) (by (with_reducible repeat (first | refine blk_drewN ?_ _ | refine blk_drew ?_ | refine blk_alloc ?_ _)); exact BK245.out) hb)
                    have n2_ := Aside0.mk (below_step (by repeat (first | (with_reducible first | exact HB.out | apply below_alloc | apply pw_below_drewN | apply below_drew1 | refine below_set ?_ GE235.out | refine below_set ?_ GE245.out) | exact HB.out)) hb)
                    have n3_ := Aside0.mk (hbox)
                    have n4_ := Aside0.mk ((by rw [hg]; exact (below_size (by repeat (first | (with_reducible first | exact HB.out | apply below_alloc | apply pw_below_drewN | apply below_drew1 | refine below_set ?_ GE235.out | refine below_set ?_ GE245.out) | exact HB.out))) : w.heap.size ≤ gb244))
                    have n5_ := Aside0.mk ((by rw [hg]; exact (below_size (by repeat (first | (with_reducible first | exact HB.out | apply below_alloc | apply pw_below_drewN | apply below_drew1 | refine below_set ?_ GE235.out | refine below_set ?_ GE245.out) | exact HB.out))) : w.heap.size ≤ gb244))
                    have n6_ := Aside0.mk ((by rw [hg]; exact Nat.ne_of_lt (blk_lt (g := gb235) (o := .cells #[.int .i64 t224, .int .i64 t225, .int .i64 t226, .int .i64 t227, .int .i64 t228, .int .i64 t229, .int .i64 t230, .bool t231, .int .i64 t232, .int .i64 t233] 50 (0, 0)) (by (with_reducible repeat (first | refine blk_drewN ?_ _ | refine blk_drew ?_ | refine blk_alloc ?_ _)); exact BK235.out)) : gb235 ≠ gb244))
                    have n7_ := Aside0.mk ((by rw [hg]; exact Nat.ne_of_gt (blk_lt (g := gb235) (o := .cells #[.int .i64 t224, .int .i64 t225, .int .i64 t226, .int .i64 t227, .int .i64 t228, .int .i64 t229, .int .i64 t230, .bool t231, .int .i64 t232, .int .i64 t233] 50 (0, 0)) (by (with_reducible repeat (first | refine blk_drewN ?_ _ | refine blk_drew ?_ | refine blk_alloc ?_ _)); exact BK235.out)) : gb244 ≠ gb235))
                    have n8_ := Aside0.mk ((by rw [hg]; exact Nat.ne_of_lt (blk_lt (g := gb245) (o := .cells #[.int .i64 0, .int .i64 0, .int .i64 0, .int .i64 0, .int .i64 0, .int .i64 0, .int .i64 0, .bool false, .int .i64 0, .int .i64 0] 50 (0, 0)) (by (with_reducible repeat (first | refine blk_drewN ?_ _ | refine blk_drew ?_ | refine blk_alloc ?_ _)); exact BK245.out)) : gb245 ≠ gb244))
                    have n9_ := Aside0.mk ((by rw [hg]; exact Nat.ne_of_gt (blk_lt (g := gb245) (o := .cells #[.int .i64 0, .int .i64 0, .int .i64 0, .int .i64 0, .int .i64 0, .int .i64 0, .int .i64 0, .bool false, .int .i64 0, .int .i64 0] 50 (0, 0)) (by (with_reducible repeat (first | refine blk_drewN ?_ _ | refine blk_drew ?_ | refine blk_alloc ?_ _)); exact BK245.out)) : gb244 ≠ gb245))
                    clear BK235
                    clear BK245
                    clear HB
                    have BK235 := n0_
                    have BK245 := n1_
                    have HB := n2_
                    have BK244 := n3_
                    have GW244 := n4_
                    have GE244 := n5_
                    have NB235_244 := n6_
                    have NB244_235 := n7_
                    have NB245_244 := n8_
                    have NB244_245 := n9_
                    clear n0_ n1_ n2_ n3_ n4_ n5_ n6_ n7_ n8_ n9_
                    clear hb hbox hg
                    refine hK.out _ _ ⟨(blk_cell BK235.out 0).trans rfl, (blk_cell BK235.out 1).trans rfl, (blk_cell BK235.out 2).trans rfl, (blk_cell BK235.out 3).trans rfl, (blk_cell BK235.out 4).trans rfl, (blk_cell BK235.out 5).trans rfl, (blk_cell BK235.out 6).trans rfl, (blk_cell BK235.out 7).trans rfl, (blk_cell BK235.out 8).trans rfl, (blk_cell BK235.out 9).trans rfl⟩ (fun hHeld => ?_)
                    clear hK K
                    refine norm_ (a' := ?_) ?_ ?_
                    rotate_left
                    ·show Act.put _ (some 6) _ = _
                     simp only [Act.put, List.setIfInBounds_toArray, List.set_cons_zero, List.set_cons_succ, i64_w, i32_w]
                     rfl
                    exact norm_ (by first | (simp only [putAll, Act.put, List.setIfInBounds_toArray, List.set_cons_zero, List.set_cons_succ]; done) | (simp only [putAll, Act.put, List.setIfInBounds_toArray, List.set_cons_zero, List.set_cons_succ]; rfl)) (hJ4_5 (gb244, gb245) _ ⟨hHeld, (by (with_reducible repeat (first | refine blk_drewN ?_ _ | refine blk_drew ?_ | refine blk_alloc ?_ _)); exact BK235.out), (by (with_reducible repeat (first | refine blk_drewN ?_ _ | refine blk_drew ?_ | refine blk_alloc ?_ _)); exact BK244.out), (by (with_reducible repeat (first | refine blk_drewN ?_ _ | refine blk_drew ?_ | refine blk_alloc ?_ _)); exact BK245.out), GW244.out, GE244.out, NB235_244.out, NB244_235.out, NB245_244.out, NB244_245.out, GW245.out, GE245.out, NB235_245.out, NB245_235.out, (by repeat (first | (with_reducible first | exact HB.out | apply below_alloc | apply pw_below_drewN | apply below_drew1 | refine below_set ?_ GE235.out | refine below_set ?_ GE245.out | refine below_set ?_ GE244.out) | exact HB.out))⟩)
                 ·skip
                  rintro gb244 w45 ⟨hS_, h0_, h1_, h2_, h3_, h4_, h5_, h6_⟩
                  have n0_ : Aside0 (w45.heap[gb235]? = some (.cells #[.int .i64 t224, .int .i64 t225, .int .i64 t226, .int .i64 t227, .int .i64 t228, .int .i64 t229, .int .i64 t230, .bool t231, .int .i64 t232, .int .i64 t233] 50 (0, 0))) := ⟨h0_⟩
                  have n1_ : Aside0 (w45.heap[gb244]? = some (.cells #[.int .i64 0, .int .i64 0, .int .i64 0, .int .i64 0, .int .i64 0, .int .i64 0, .int .i64 0, .bool false, .int .i64 0, .int .i64 0] 50 (0, 0))) := ⟨h1_⟩
                  have n2_ : Aside0 (w.heap.size ≤ gb244) := ⟨h2_⟩
                  have n3_ : Aside0 (w.heap.size ≤ gb244) := ⟨h3_⟩
                  have n4_ : Aside0 (gb235 ≠ gb244) := ⟨h4_⟩
                  have n5_ : Aside0 (gb244 ≠ gb235) := ⟨h5_⟩
                  have n6_ : Aside0 (Below w.heap.size w w45) := ⟨h6_⟩
                  clear BK235
                  clear HB
                  clear h0_ h1_ h2_ h3_ h4_ h5_ h6_
                  have BK235 := n0_
                  have BK244 := n1_
                  have GW244 := n2_
                  have GE244 := n3_
                  have NB235_244 := n4_
                  have NB244_235 := n5_
                  have HB := n6_
                  clear n0_ n1_ n2_ n3_ n4_ n5_ n6_
                  have hHeld : w45.cell? ⟨gb235, 0, none⟩ = some (.int .i64 t224) ∧ w45.cell? ⟨gb235, 1, none⟩ = some (.int .i64 t225) ∧ w45.cell? ⟨gb235, 2, none⟩ = some (.int .i64 t226) ∧ w45.cell? ⟨gb235, 3, none⟩ = some (.int .i64 t227) ∧ w45.cell? ⟨gb235, 4, none⟩ = some (.int .i64 t228) ∧ w45.cell? ⟨gb235, 5, none⟩ = some (.int .i64 t229) ∧ w45.cell? ⟨gb235, 6, none⟩ = some (.int .i64 t230) ∧ w45.cell? ⟨gb235, 7, none⟩ = some (.bool t231) ∧ w45.cell? ⟨gb235, 8, none⟩ = some (.int .i64 t232) ∧ w45.cell? ⟨gb235, 9, none⟩ = some (.int .i64 t233) := hS_
                  refine norm_ (a' := ?_) ?_ ?_
                  rotate_left
                  ·simp only [putAll, Act.put, List.setIfInBounds_toArray, List.set_cons_zero, List.set_cons_succ]
                   rfl
                  refine two_ (i := 3) (j := 5) (Ni := some 5) (Nj := some 7) #[true, true, true, true, true, false, false, false, false] #[true, true, true, false, true, true, false, false, false] rfl rfl rfl rfl (two_of HT_.out (by kernel_rfl)) (by decide) (by decide) (fun K hK => ?_) (fun K hK => ?_)
                  ·skip
                   refine box_step ?hg (N := 5) ?hd (cs := #[.int .i64 0, .int .i64 0, .int .i64 0, .int .i64 0, .int .i64 0, .int .i64 0, .int .i64 0, .bool false, .int .i64 0, .int .i64 0]) (t := 50) ?hr ?_; (case hd => rfl); (case hg => rfl); (case hr => first | (go_simp; done) | (go_simp; rfl))
                   intro gb243 hg w46 hbox hb
                   have n0_ := Aside0.mk (blk_below (g := gb235) (o := .cells #[.int .i64 t224, .int .i64 t225, .int .i64 t226, .int .i64 t227, .int .i64 t228, .int .i64 t229, .int .i64 t230, .bool t231, .int .i64 t232, .int .i64 t233] 50 (0, 0)) (by (with_reducible repeat (first | refine blk_drewN ?_ _ | refine blk_drew ?_ | refine blk_alloc ?_ _)); exact BK235.out) hb)
                   have n1_ := Aside0.mk (blk_below (g := gb244) (o := .cells #[.int .i64 0, .int .i64 0, .int .i64 0, .int .i64 0, .int .i64 0, .int .i64 0, .int .i64 0, .bool false, .int .i64 0, .int .i64 0] 50 (0, 0)) (by (with_reducible repeat (first | refine blk_drewN ?_ _ | refine blk_drew ?_ | refine blk_alloc ?_ _)); exact BK244.out) hb)
                   have n2_ := Aside0.mk (below_step (by repeat (first | (with_reducible first | exact HB.out | apply below_alloc | apply pw_below_drewN | apply below_drew1 | refine below_set ?_ GE235.out | refine below_set ?_ GE244.out) | exact HB.out)) hb)
                   have n3_ := Aside0.mk (hbox)
                   have n4_ := Aside0.mk ((by rw [hg]; exact (below_size (by repeat (first | (with_reducible first | exact HB.out | apply below_alloc | apply pw_below_drewN | apply below_drew1 | refine below_set ?_ GE235.out | refine below_set ?_ GE244.out) | exact HB.out))) : w.heap.size ≤ gb243))
                   have n5_ := Aside0.mk ((by rw [hg]; exact (below_size (by repeat (first | (with_reducible first | exact HB.out | apply below_alloc | apply pw_below_drewN | apply below_drew1 | refine below_set ?_ GE235.out | refine below_set ?_ GE244.out) | exact HB.out))) : w.heap.size ≤ gb243))
                   have n6_ := Aside0.mk ((by rw [hg]; exact Nat.ne_of_lt (blk_lt (g := gb235) (o := .cells #[.int .i64 t224, .int .i64 t225, .int .i64 t226, .int .i64 t227, .int .i64 t228, .int .i64 t229, .int .i64 t230, .bool t231, .int .i64 t232, .int .i64 t233] 50 (0, 0)) (by (with_reducible repeat (first | refine blk_drewN ?_ _ | refine blk_drew ?_ | refine blk_alloc ?_ _)); exact BK235.out)) : gb235 ≠ gb243))
                   have n7_ := Aside0.mk ((by rw [hg]; exact Nat.ne_of_gt (blk_lt (g := gb235) (o := .cells #[.int .i64 t224, .int .i64 t225, .int .i64 t226, .int .i64 t227, .int .i64 t228, .int .i64 t229, .int .i64 t230, .bool t231, .int .i64 t232, .int .i64 t233] 50 (0, 0)) (by (with_reducible repeat (first | refine blk_drewN ?_ _ | refine blk_drew ?_ | refine blk_alloc ?_ _)); exact BK235.out)) : gb243 ≠ gb235))
                   have n8_ := Aside0.mk ((by rw [hg]; exact Nat.ne_of_lt (blk_lt (g := gb244) (o := .cells #[.int .i64 0, .int .i64 0, .int .i64 0, .int .i64 0, .int .i64 0, .int .i64 0, .int .i64 0, .bool false, .int .i64 0, .int .i64 0] 50 (0, 0)) (by (with_reducible repeat (first | refine blk_drewN ?_ _ | refine blk_drew ?_ | refine blk_alloc ?_ _)); exact BK244.out)) : gb244 ≠ gb243))
                   have n9_ := Aside0.mk ((by rw [hg]; exact Nat.ne_of_gt (blk_lt (g := gb244) (o := .cells #[.int .i64 0, .int .i64 0, .int .i64 0, .int .i64 0, .int .i64 0, .int .i64 0, .int .i64 0, .bool false, .int .i64 0, .int .i64 0] 50 (0, 0)) (by (with_reducible repeat (first | refine blk_drewN ?_ _ | refine blk_drew ?_ | refine blk_alloc ?_ _)); exact BK244.out)) : gb243 ≠ gb244))
                   clear BK235
                   clear BK244
                   clear HB
                   have BK235 := n0_
                   have BK244 := n1_
                   have HB := n2_
                   have BK243 := n3_
                   have GW243 := n4_
                   have GE243 := n5_
                   have NB235_243 := n6_
                   have NB243_235 := n7_
                   have NB244_243 := n8_
                   have NB243_244 := n9_
                   clear n0_ n1_ n2_ n3_ n4_ n5_ n6_ n7_ n8_ n9_
                   clear hb hbox hg
                   refine hK.out _ _ ⟨(blk_cell BK235.out 0).trans rfl, (blk_cell BK235.out 1).trans rfl, (blk_cell BK235.out 2).trans rfl, (blk_cell BK235.out 3).trans rfl, (blk_cell BK235.out 4).trans rfl, (blk_cell BK235.out 5).trans rfl, (blk_cell BK235.out 6).trans rfl, (blk_cell BK235.out 7).trans rfl, (blk_cell BK235.out 8).trans rfl, (blk_cell BK235.out 9).trans rfl⟩ (fun hHeld => ?_)
                   clear hK K
                   refine norm_ (a' := ?_) ?_ ?_
                   rotate_left
                   ·show Act.put _ (some 5) _ = _
                    simp only [Act.put, List.setIfInBounds_toArray, List.set_cons_zero, List.set_cons_succ, i64_w, i32_w]
                    rfl
                   exact norm_ (by first | (simp only [putAll, Act.put, List.setIfInBounds_toArray, List.set_cons_zero, List.set_cons_succ]; done) | (simp only [putAll, Act.put, List.setIfInBounds_toArray, List.set_cons_zero, List.set_cons_succ]; rfl)) (hJ3_4 (gb243, gb244) _ ⟨hHeld, (by (with_reducible repeat (first | refine blk_drewN ?_ _ | refine blk_drew ?_ | refine blk_alloc ?_ _)); exact BK235.out), (by (with_reducible repeat (first | refine blk_drewN ?_ _ | refine blk_drew ?_ | refine blk_alloc ?_ _)); exact BK243.out), (by (with_reducible repeat (first | refine blk_drewN ?_ _ | refine blk_drew ?_ | refine blk_alloc ?_ _)); exact BK244.out), GW243.out, GE243.out, NB235_243.out, NB243_235.out, NB244_243.out, NB243_244.out, GW244.out, GE244.out, NB235_244.out, NB244_235.out, (by repeat (first | (with_reducible first | exact HB.out | apply below_alloc | apply pw_below_drewN | apply below_drew1 | refine below_set ?_ GE235.out | refine below_set ?_ GE244.out | refine below_set ?_ GE243.out) | exact HB.out))⟩)
                  ·skip
                   refine box_step ?hg (N := 7) ?hd (cs := #[.int .i64 0, .int .i64 0, .int .i64 0, .int .i64 0, .int .i64 0, .int .i64 0, .int .i64 0, .bool false, .int .i64 0, .int .i64 0]) (t := 50) ?hr ?_; (case hd => rfl); (case hg => rfl); (case hr => first | (go_simp; done) | (go_simp; rfl))
                   intro gb245 hg w46 hbox hb
                   have n0_ := Aside0.mk (blk_below (g := gb235) (o := .cells #[.int .i64 t224, .int .i64 t225, .int .i64 t226, .int .i64 t227, .int .i64 t228, .int .i64 t229, .int .i64 t230, .bool t231, .int .i64 t232, .int .i64 t233] 50 (0, 0)) (by (with_reducible repeat (first | refine blk_drewN ?_ _ | refine blk_drew ?_ | refine blk_alloc ?_ _)); exact BK235.out) hb)
                   have n1_ := Aside0.mk (blk_below (g := gb244) (o := .cells #[.int .i64 0, .int .i64 0, .int .i64 0, .int .i64 0, .int .i64 0, .int .i64 0, .int .i64 0, .bool false, .int .i64 0, .int .i64 0] 50 (0, 0)) (by (with_reducible repeat (first | refine blk_drewN ?_ _ | refine blk_drew ?_ | refine blk_alloc ?_ _)); exact BK244.out) hb)
                   have n2_ := Aside0.mk (below_step (by repeat (first | (with_reducible first | exact HB.out | apply below_alloc | apply pw_below_drewN | apply below_drew1 | refine below_set ?_ GE235.out | refine below_set ?_ GE244.out) | exact HB.out)) hb)
                   have n3_ := Aside0.mk (hbox)
                   have n4_ := Aside0.mk ((by rw [hg]; exact (below_size (by repeat (first | (with_reducible first | exact HB.out | apply below_alloc | apply pw_below_drewN | apply below_drew1 | refine below_set ?_ GE235.out | refine below_set ?_ GE244.out) | exact HB.out))) : w.heap.size ≤ gb245))
                   have n5_ := Aside0.mk ((by rw [hg]; exact (below_size (by repeat (first | (with_reducible first | exact HB.out | apply below_alloc | apply pw_below_drewN | apply below_drew1 | refine below_set ?_ GE235.out | refine below_set ?_ GE244.out) | exact HB.out))) : w.heap.size ≤ gb245))
                   have n6_ := Aside0.mk ((by rw [hg]; exact Nat.ne_of_lt (blk_lt (g := gb235) (o := .cells #[.int .i64 t224, .int .i64 t225, .int .i64 t226, .int .i64 t227, .int .i64 t228, .int .i64 t229, .int .i64 t230, .bool t231, .int .i64 t232, .int .i64 t233] 50 (0, 0)) (by (with_reducible repeat (first | refine blk_drewN ?_ _ | refine blk_drew ?_ | refine blk_alloc ?_ _)); exact BK235.out)) : gb235 ≠ gb245))
                   have n7_ := Aside0.mk ((by rw [hg]; exact Nat.ne_of_gt (blk_lt (g := gb235) (o := .cells #[.int .i64 t224, .int .i64 t225, .int .i64 t226, .int .i64 t227, .int .i64 t228, .int .i64 t229, .int .i64 t230, .bool t231, .int .i64 t232, .int .i64 t233] 50 (0, 0)) (by (with_reducible repeat (first | refine blk_drewN ?_ _ | refine blk_drew ?_ | refine blk_alloc ?_ _)); exact BK235.out)) : gb245 ≠ gb235))
                   have n8_ := Aside0.mk ((by rw [hg]; exact Nat.ne_of_lt (blk_lt (g := gb244) (o := .cells #[.int .i64 0, .int .i64 0, .int .i64 0, .int .i64 0, .int .i64 0, .int .i64 0, .int .i64 0, .bool false, .int .i64 0, .int .i64 0] 50 (0, 0)) (by (with_reducible repeat (first | refine blk_drewN ?_ _ | refine blk_drew ?_ | refine blk_alloc ?_ _)); exact BK244.out)) : gb244 ≠ gb245))
                   have n9_ := Aside0.mk ((by rw [hg]; exact Nat.ne_of_gt (blk_lt (g := gb244) (o := .cells #[.int .i64 0, .int .i64 0, .int .i64 0, .int .i64 0, .int .i64 0, .int .i64 0, .int .i64 0, .bool false, .int .i64 0, .int .i64 0] 50 (0, 0)) (by (with_reducible repeat (first | refine blk_drewN ?_ _ | refine blk_drew ?_ | refine blk_alloc ?_ _)); exact BK244.out)) : gb245 ≠ gb244))
                   clear BK235
                   clear BK244
                   clear HB
                   have BK235 := n0_
                   have BK244 := n1_
                   have HB := n2_
                   have BK245 := n3_
                   have GW245 := n4_
                   have GE245 := n5_
                   have NB235_245 := n6_
                   have NB245_235 := n7_
                   have NB244_245 := n8_
                   have NB245_244 := n9_
                   clear n0_ n1_ n2_ n3_ n4_ n5_ n6_ n7_ n8_ n9_
                   clear hb hbox hg
                   refine hK.out _ _ ⟨(blk_cell BK235.out 0).trans rfl, (blk_cell BK235.out 1).trans rfl, (blk_cell BK235.out 2).trans rfl, (blk_cell BK235.out 3).trans rfl, (blk_cell BK235.out 4).trans rfl, (blk_cell BK235.out 5).trans rfl, (blk_cell BK235.out 6).trans rfl, (blk_cell BK235.out 7).trans rfl, (blk_cell BK235.out 8).trans rfl, (blk_cell BK235.out 9).trans rfl⟩ (fun hHeld => ?_)
                   clear hK K
                   refine norm_ (a' := ?_) ?_ ?_
                   rotate_left
                   ·show Act.put _ (some 7) _ = _
                    simp only [Act.put, List.setIfInBounds_toArray, List.set_cons_zero, List.set_cons_succ, i64_w, i32_w]
                    rfl
                   exact norm_ (by first | (simp only [putAll, Act.put, List.setIfInBounds_toArray, List.set_cons_zero, List.set_cons_succ]; done) | (simp only [putAll, Act.put, List.setIfInBounds_toArray, List.set_cons_zero, List.set_cons_succ]; rfl)) (hJ4_5 (gb244, gb245) _ ⟨hHeld, (by (with_reducible repeat (first | refine blk_drewN ?_ _ | refine blk_drew ?_ | refine blk_alloc ?_ _)); exact BK235.out), (by (with_reducible repeat (first | refine blk_drewN ?_ _ | refine blk_drew ?_ | refine blk_alloc ?_ _)); exact BK244.out), (by (with_reducible repeat (first | refine blk_drewN ?_ _ | refine blk_drew ?_ | refine blk_alloc ?_ _)); exact BK245.out), GW244.out, GE244.out, NB235_244.out, NB244_235.out, NB245_244.out, NB244_245.out, GW245.out, GE245.out, NB235_245.out, NB245_235.out, (by repeat (first | (with_reducible first | exact HB.out | apply below_alloc | apply pw_below_drewN | apply below_drew1 | refine below_set ?_ GE235.out | refine below_set ?_ GE244.out | refine below_set ?_ GE245.out) | exact HB.out))⟩)
                ·skip
                 rintro gb243 w45 ⟨hS_, h0_, h1_, h2_, h3_, h4_, h5_, h6_⟩
                 have n0_ : Aside0 (w45.heap[gb235]? = some (.cells #[.int .i64 t224, .int .i64 t225, .int .i64 t226, .int .i64 t227, .int .i64 t228, .int .i64 t229, .int .i64 t230, .bool t231, .int .i64 t232, .int .i64 t233] 50 (0, 0))) := ⟨h0_⟩
                 have n1_ : Aside0 (w45.heap[gb243]? = some (.cells #[.int .i64 0, .int .i64 0, .int .i64 0, .int .i64 0, .int .i64 0, .int .i64 0, .int .i64 0, .bool false, .int .i64 0, .int .i64 0] 50 (0, 0))) := ⟨h1_⟩
                 have n2_ : Aside0 (w.heap.size ≤ gb243) := ⟨h2_⟩
                 have n3_ : Aside0 (w.heap.size ≤ gb243) := ⟨h3_⟩
                 have n4_ : Aside0 (gb235 ≠ gb243) := ⟨h4_⟩
                 have n5_ : Aside0 (gb243 ≠ gb235) := ⟨h5_⟩
                 have n6_ : Aside0 (Below w.heap.size w w45) := ⟨h6_⟩
                 clear BK235
                 clear HB
                 clear h0_ h1_ h2_ h3_ h4_ h5_ h6_
                 have BK235 := n0_
                 have BK243 := n1_
                 have GW243 := n2_
                 have GE243 := n3_
                 have NB235_243 := n4_
                 have NB243_235 := n5_
                 have HB := n6_
                 clear n0_ n1_ n2_ n3_ n4_ n5_ n6_
                 have hHeld : w45.cell? ⟨gb235, 0, none⟩ = some (.int .i64 t224) ∧ w45.cell? ⟨gb235, 1, none⟩ = some (.int .i64 t225) ∧ w45.cell? ⟨gb235, 2, none⟩ = some (.int .i64 t226) ∧ w45.cell? ⟨gb235, 3, none⟩ = some (.int .i64 t227) ∧ w45.cell? ⟨gb235, 4, none⟩ = some (.int .i64 t228) ∧ w45.cell? ⟨gb235, 5, none⟩ = some (.int .i64 t229) ∧ w45.cell? ⟨gb235, 6, none⟩ = some (.int .i64 t230) ∧ w45.cell? ⟨gb235, 7, none⟩ = some (.bool t231) ∧ w45.cell? ⟨gb235, 8, none⟩ = some (.int .i64 t232) ∧ w45.cell? ⟨gb235, 9, none⟩ = some (.int .i64 t233) := hS_
                 refine norm_ (a' := ?_) ?_ ?_
                 rotate_left
                 ·simp only [putAll, Act.put, List.setIfInBounds_toArray, List.set_cons_zero, List.set_cons_succ]
                  rfl
                 refine two_ (i := 4) (j := 5) (Ni := some 6) (Nj := some 7) #[true, true, true, true, true, false, false, false, false] #[true, true, true, true, false, true, false, false, false] rfl rfl rfl rfl (two_of HT_.out (by kernel_rfl)) (by decide) (by decide) (fun K hK => ?_) (fun K hK => ?_)
                 ·skip
                  refine box_step ?hg (N := 6) ?hd (cs := #[.int .i64 0, .int .i64 0, .int .i64 0, .int .i64 0, .int .i64 0, .int .i64 0, .int .i64 0, .bool false, .int .i64 0, .int .i64 0]) (t := 50) ?hr ?_; (case hd => rfl); (case hg => rfl); (case hr => first | (go_simp; done) | (go_simp; rfl))
                  intro gb244 hg w46 hbox hb
                  have n0_ := Aside0.mk (blk_below (g := gb235) (o := .cells #[.int .i64 t224, .int .i64 t225, .int .i64 t226, .int .i64 t227, .int .i64 t228, .int .i64 t229, .int .i64 t230, .bool t231, .int .i64 t232, .int .i64 t233] 50 (0, 0)) (by (with_reducible repeat (first | refine blk_drewN ?_ _ | refine blk_drew ?_ | refine blk_alloc ?_ _)); exact BK235.out) hb)
                  have n1_ := Aside0.mk (blk_below (g := gb243) (o := .cells #[.int .i64 0, .int .i64 0, .int .i64 0, .int .i64 0, .int .i64 0, .int .i64 0, .int .i64 0, .bool false, .int .i64 0, .int .i64 0] 50 (0, 0)) (by (with_reducible repeat (first | refine blk_drewN ?_ _ | refine blk_drew ?_ | refine blk_alloc ?_ _)); exact BK243.out) hb)
                  have n2_ := Aside0.mk (below_step (by repeat (first | (with_reducible first | exact HB.out | apply below_alloc | apply pw_below_drewN | apply below_drew1 | refine below_set ?_ GE235.out | refine below_set ?_ GE243.out) | exact HB.out)) hb)
                  have n3_ := Aside0.mk (hbox)
                  have n4_ := Aside0.mk ((by rw [hg]; exact (below_size (by repeat (first | (with_reducible first | exact HB.out | apply below_alloc | apply pw_below_drewN | apply below_drew1 | refine below_set ?_ GE235.out | refine below_set ?_ GE243.out) | exact HB.out))) : w.heap.size ≤ gb244))
                  have n5_ := Aside0.mk ((by rw [hg]; exact (below_size (by repeat (first | (with_reducible first | exact HB.out | apply below_alloc | apply pw_below_drewN | apply below_drew1 | refine below_set ?_ GE235.out | refine below_set ?_ GE243.out) | exact HB.out))) : w.heap.size ≤ gb244))
                  have n6_ := Aside0.mk ((by rw [hg]; exact Nat.ne_of_lt (blk_lt (g := gb235) (o := .cells #[.int .i64 t224, .int .i64 t225, .int .i64 t226, .int .i64 t227, .int .i64 t228, .int .i64 t229, .int .i64 t230, .bool t231, .int .i64 t232, .int .i64 t233] 50 (0, 0)) (by (with_reducible repeat (first | refine blk_drewN ?_ _ | refine blk_drew ?_ | refine blk_alloc ?_ _)); exact BK235.out)) : gb235 ≠ gb244))
                  have n7_ := Aside0.mk ((by rw [hg]; exact Nat.ne_of_gt (blk_lt (g := gb235) (o := .cells #[.int .i64 t224, .int .i64 t225, .int .i64 t226, .int .i64 t227, .int .i64 t228, .int .i64 t229, .int .i64 t230, .bool t231, .int .i64 t232, .int .i64 t233] 50 (0, 0)) (by (with_reducible repeat (first | refine blk_drewN ?_ _ | refine blk_drew ?_ | refine blk_alloc ?_ _)); exact BK235.out)) : gb244 ≠ gb235))
                  have n8_ := Aside0.mk ((by rw [hg]; exact Nat.ne_of_lt (blk_lt (g := gb243) (o := .cells #[.int .i64 0, .int .i64 0, .int .i64 0, .int .i64 0, .int .i64 0, .int .i64 0, .int .i64 0, .bool false, .int .i64 0, .int .i64 0] 50 (0, 0)) (by (with_reducible repeat (first | refine blk_drewN ?_ _ | refine blk_drew ?_ | refine blk_alloc ?_ _)); exact BK243.out)) : gb243 ≠ gb244))
                  have n9_ := Aside0.mk ((by rw [hg]; exact Nat.ne_of_gt (blk_lt (g := gb243) (o := .cells #[.int .i64 0, .int .i64 0, .int .i64 0, .int .i64 0, .int .i64 0, .int .i64 0, .int .i64 0, .bool false, .int .i64 0, .int .i64 0] 50 (0, 0)) (by (with_reducible repeat (first | refine blk_drewN ?_ _ | refine blk_drew ?_ | refine blk_alloc ?_ _)); exact BK243.out)) : gb244 ≠ gb243))
                  clear BK235
                  clear BK243
                  clear HB
                  have BK235 := n0_
                  have BK243 := n1_
                  have HB := n2_
                  have BK244 := n3_
                  have GW244 := n4_
                  have GE244 := n5_
                  have NB235_244 := n6_
                  have NB244_235 := n7_
                  have NB243_244 := n8_
                  have NB244_243 := n9_
                  clear n0_ n1_ n2_ n3_ n4_ n5_ n6_ n7_ n8_ n9_
                  clear hb hbox hg
                  refine hK.out _ _ ⟨(blk_cell BK235.out 0).trans rfl, (blk_cell BK235.out 1).trans rfl, (blk_cell BK235.out 2).trans rfl, (blk_cell BK235.out 3).trans rfl, (blk_cell BK235.out 4).trans rfl, (blk_cell BK235.out 5).trans rfl, (blk_cell BK235.out 6).trans rfl, (blk_cell BK235.out 7).trans rfl, (blk_cell BK235.out 8).trans rfl, (blk_cell BK235.out 9).trans rfl⟩ (fun hHeld => ?_)
                  clear hK K
                  refine norm_ (a' := ?_) ?_ ?_
                  rotate_left
                  ·show Act.put _ (some 6) _ = _
                   simp only [Act.put, List.setIfInBounds_toArray, List.set_cons_zero, List.set_cons_succ, i64_w, i32_w]
                   rfl
                  exact norm_ (by first | (simp only [putAll, Act.put, List.setIfInBounds_toArray, List.set_cons_zero, List.set_cons_succ]; done) | (simp only [putAll, Act.put, List.setIfInBounds_toArray, List.set_cons_zero, List.set_cons_succ]; rfl)) (hJ3_4 (gb243, gb244) _ ⟨hHeld, (by (with_reducible repeat (first | refine blk_drewN ?_ _ | refine blk_drew ?_ | refine blk_alloc ?_ _)); exact BK235.out), (by (with_reducible repeat (first | refine blk_drewN ?_ _ | refine blk_drew ?_ | refine blk_alloc ?_ _)); exact BK243.out), (by (with_reducible repeat (first | refine blk_drewN ?_ _ | refine blk_drew ?_ | refine blk_alloc ?_ _)); exact BK244.out), GW243.out, GE243.out, NB235_243.out, NB243_235.out, NB244_243.out, NB243_244.out, GW244.out, GE244.out, NB235_244.out, NB244_235.out, (by repeat (first | (with_reducible first | exact HB.out | apply below_alloc | apply pw_below_drewN | apply below_drew1 | refine below_set ?_ GE235.out | refine below_set ?_ GE243.out | refine below_set ?_ GE244.out) | exact HB.out))⟩)
                 ·skip
                  refine box_step ?hg (N := 7) ?hd (cs := #[.int .i64 0, .int .i64 0, .int .i64 0, .int .i64 0, .int .i64 0, .int .i64 0, .int .i64 0, .bool false, .int .i64 0, .int .i64 0]) (t := 50) ?hr ?_; (case hd => rfl); (case hg => rfl); (case hr => first | (go_simp; done) | (go_simp; rfl))
                  intro gb245 hg w46 hbox hb
                  have n0_ := Aside0.mk (blk_below (g := gb235) (o := .cells #[.int .i64 t224, .int .i64 t225, .int .i64 t226, .int .i64 t227, .int .i64 t228, .int .i64 t229, .int .i64 t230, .bool t231, .int .i64 t232, .int .i64 t233] 50 (0, 0)) (by (with_reducible repeat (first | refine blk_drewN ?_ _ | refine blk_drew ?_ | refine blk_alloc ?_ _)); exact BK235.out) hb)
                  have n1_ := Aside0.mk (blk_below (g := gb243) (o := .cells #[.int .i64 0, .int .i64 0, .int .i64 0, .int .i64 0, .int .i64 0, .int .i64 0, .int .i64 0, .bool false, .int .i64 0, .int .i64 0] 50 (0, 0)) (by (with_reducible repeat (first | refine blk_drewN ?_ _ | refine blk_drew ?_ | refine blk_alloc ?_ _)); exact BK243.out) hb)
                  have n2_ := Aside0.mk (below_step (by repeat (first | (with_reducible first | exact HB.out | apply below_alloc | apply pw_below_drewN | apply below_drew1 | refine below_set ?_ GE235.out | refine below_set ?_ GE243.out) | exact HB.out)) hb)
                  have n3_ := Aside0.mk (hbox)
                  have n4_ := Aside0.mk ((by rw [hg]; exact (below_size (by repeat (first | (with_reducible first | exact HB.out | apply below_alloc | apply pw_below_drewN | apply below_drew1 | refine below_set ?_ GE235.out | refine below_set ?_ GE243.out) | exact HB.out))) : w.heap.size ≤ gb245))
                  have n5_ := Aside0.mk ((by rw [hg]; exact (below_size (by repeat (first | (with_reducible first | exact HB.out | apply below_alloc | apply pw_below_drewN | apply below_drew1 | refine below_set ?_ GE235.out | refine below_set ?_ GE243.out) | exact HB.out))) : w.heap.size ≤ gb245))
                  have n6_ := Aside0.mk ((by rw [hg]; exact Nat.ne_of_lt (blk_lt (g := gb235) (o := .cells #[.int .i64 t224, .int .i64 t225, .int .i64 t226, .int .i64 t227, .int .i64 t228, .int .i64 t229, .int .i64 t230, .bool t231, .int .i64 t232, .int .i64 t233] 50 (0, 0)) (by (with_reducible repeat (first | refine blk_drewN ?_ _ | refine blk_drew ?_ | refine blk_alloc ?_ _)); exact BK235.out)) : gb235 ≠ gb245))
                  have n7_ := Aside0.mk ((by rw [hg]; exact Nat.ne_of_gt (blk_lt (g := gb235) (o := .cells #[.int .i64 t224, .int .i64 t225, .int .i64 t226, .int .i64 t227, .int .i64 t228, .int .i64 t229, .int .i64 t230, .bool t231, .int .i64 t232, .int .i64 t233] 50 (0, 0)) (by (with_reducible repeat (first | refine blk_drewN ?_ _ | refine blk_drew ?_ | refine blk_alloc ?_ _)); exact BK235.out)) : gb245 ≠ gb235))
                  have n8_ := Aside0.mk ((by rw [hg]; exact Nat.ne_of_lt (blk_lt (g := gb243) (o := .cells #[.int .i64 0, .int .i64 0, .int .i64 0, .int .i64 0, .int .i64 0, .int .i64 0, .int .i64 0, .bool false, .int .i64 0, .int .i64 0] 50 (0, 0)) (by (with_reducible repeat (first | refine blk_drewN ?_ _ | refine blk_drew ?_ | refine blk_alloc ?_ _)); exact BK243.out)) : gb243 ≠ gb245))
                  have n9_ := Aside0.mk ((by rw [hg]; exact Nat.ne_of_gt (blk_lt (g := gb243) (o := .cells #[.int .i64 0, .int .i64 0, .int .i64 0, .int .i64 0, .int .i64 0, .int .i64 0, .int .i64 0, .bool false, .int .i64 0, .int .i64 0] 50 (0, 0)) (by (with_reducible repeat (first | refine blk_drewN ?_ _ | refine blk_drew ?_ | refine blk_alloc ?_ _)); exact BK243.out)) : gb245 ≠ gb243))
                  clear BK235
                  clear BK243
                  clear HB
                  have BK235 := n0_
                  have BK243 := n1_
                  have HB := n2_
                  have BK245 := n3_
                  have GW245 := n4_
                  have GE245 := n5_
                  have NB235_245 := n6_
                  have NB245_235 := n7_
                  have NB243_245 := n8_
                  have NB245_243 := n9_
                  clear n0_ n1_ n2_ n3_ n4_ n5_ n6_ n7_ n8_ n9_
                  clear hb hbox hg
                  refine hK.out _ _ ⟨(blk_cell BK235.out 0).trans rfl, (blk_cell BK235.out 1).trans rfl, (blk_cell BK235.out 2).trans rfl, (blk_cell BK235.out 3).trans rfl, (blk_cell BK235.out 4).trans rfl, (blk_cell BK235.out 5).trans rfl, (blk_cell BK235.out 6).trans rfl, (blk_cell BK235.out 7).trans rfl, (blk_cell BK235.out 8).trans rfl, (blk_cell BK235.out 9).trans rfl⟩ (fun hHeld => ?_)
                  clear hK K
                  refine norm_ (a' := ?_) ?_ ?_
                  rotate_left
                  ·show Act.put _ (some 7) _ = _
                   simp only [Act.put, List.setIfInBounds_toArray, List.set_cons_zero, List.set_cons_succ, i64_w, i32_w]
                   rfl
                  exact norm_ (by first | (simp only [putAll, Act.put, List.setIfInBounds_toArray, List.set_cons_zero, List.set_cons_succ]; done) | (simp only [putAll, Act.put, List.setIfInBounds_toArray, List.set_cons_zero, List.set_cons_succ]; rfl)) (hJ3_5 (gb243, gb245) _ ⟨hHeld, (by (with_reducible repeat (first | refine blk_drewN ?_ _ | refine blk_drew ?_ | refine blk_alloc ?_ _)); exact BK235.out), (by (with_reducible repeat (first | refine blk_drewN ?_ _ | refine blk_drew ?_ | refine blk_alloc ?_ _)); exact BK243.out), (by (with_reducible repeat (first | refine blk_drewN ?_ _ | refine blk_drew ?_ | refine blk_alloc ?_ _)); exact BK245.out), GW243.out, GE243.out, NB235_243.out, NB243_235.out, NB245_243.out, NB243_245.out, GW245.out, GE245.out, NB235_245.out, NB245_235.out, (by repeat (first | (with_reducible first | exact HB.out | apply below_alloc | apply pw_below_drewN | apply below_drew1 | refine below_set ?_ GE235.out | refine below_set ?_ GE243.out | refine below_set ?_ GE245.out) | exact HB.out))⟩)
               ·skip
                rintro ⟨gb244, gb245⟩ w46 ⟨hS_, h0_, h1_, h2_, h3_, h4_, h5_, h6_, h7_, h8_, h9_, h10_, h11_, h12_, h13_⟩
                have n0_ : Aside0 (w46.heap[gb235]? = some (.cells #[.int .i64 t224, .int .i64 t225, .int .i64 t226, .int .i64 t227, .int .i64 t228, .int .i64 t229, .int .i64 t230, .bool t231, .int .i64 t232, .int .i64 t233] 50 (0, 0))) := ⟨h0_⟩
                have n1_ : Aside0 (w46.heap[gb244]? = some (.cells #[.int .i64 0, .int .i64 0, .int .i64 0, .int .i64 0, .int .i64 0, .int .i64 0, .int .i64 0, .bool false, .int .i64 0, .int .i64 0] 50 (0, 0))) := ⟨h1_⟩
                have n2_ : Aside0 (w46.heap[gb245]? = some (.cells #[.int .i64 0, .int .i64 0, .int .i64 0, .int .i64 0, .int .i64 0, .int .i64 0, .int .i64 0, .bool false, .int .i64 0, .int .i64 0] 50 (0, 0))) := ⟨h2_⟩
                have n3_ : Aside0 (w.heap.size ≤ gb244) := ⟨h3_⟩
                have n4_ : Aside0 (w.heap.size ≤ gb244) := ⟨h4_⟩
                have n5_ : Aside0 (gb235 ≠ gb244) := ⟨h5_⟩
                have n6_ : Aside0 (gb244 ≠ gb235) := ⟨h6_⟩
                have n7_ : Aside0 (gb245 ≠ gb244) := ⟨h7_⟩
                have n8_ : Aside0 (gb244 ≠ gb245) := ⟨h8_⟩
                have n9_ : Aside0 (w.heap.size ≤ gb245) := ⟨h9_⟩
                have n10_ : Aside0 (w.heap.size ≤ gb245) := ⟨h10_⟩
                have n11_ : Aside0 (gb235 ≠ gb245) := ⟨h11_⟩
                have n12_ : Aside0 (gb245 ≠ gb235) := ⟨h12_⟩
                have n13_ : Aside0 (Below w.heap.size w w46) := ⟨h13_⟩
                clear BK235
                clear HB
                clear h0_ h1_ h2_ h3_ h4_ h5_ h6_ h7_ h8_ h9_ h10_ h11_ h12_ h13_
                have BK235 := n0_
                have BK244 := n1_
                have BK245 := n2_
                have GW244 := n3_
                have GE244 := n4_
                have NB235_244 := n5_
                have NB244_235 := n6_
                have NB245_244 := n7_
                have NB244_245 := n8_
                have GW245 := n9_
                have GE245 := n10_
                have NB235_245 := n11_
                have NB245_235 := n12_
                have HB := n13_
                clear n0_ n1_ n2_ n3_ n4_ n5_ n6_ n7_ n8_ n9_ n10_ n11_ n12_ n13_
                have hHeld : w46.cell? ⟨gb235, 0, none⟩ = some (.int .i64 t224) ∧ w46.cell? ⟨gb235, 1, none⟩ = some (.int .i64 t225) ∧ w46.cell? ⟨gb235, 2, none⟩ = some (.int .i64 t226) ∧ w46.cell? ⟨gb235, 3, none⟩ = some (.int .i64 t227) ∧ w46.cell? ⟨gb235, 4, none⟩ = some (.int .i64 t228) ∧ w46.cell? ⟨gb235, 5, none⟩ = some (.int .i64 t229) ∧ w46.cell? ⟨gb235, 6, none⟩ = some (.int .i64 t230) ∧ w46.cell? ⟨gb235, 7, none⟩ = some (.bool t231) ∧ w46.cell? ⟨gb235, 8, none⟩ = some (.int .i64 t232) ∧ w46.cell? ⟨gb235, 9, none⟩ = some (.int .i64 t233) := hS_
                refine norm_ (a' := ?_) ?_ ?_
                rotate_left
                ·simp only [putAll, Act.put, List.setIfInBounds_toArray, List.set_cons_zero, List.set_cons_succ]
                 rfl
                refine one_ (i := 3) (N := some 5) #[true, true, true, true, true, true, false, false, false] rfl rfl (one_of HT_.out (by kernel_rfl)) (by decide) (fun K hK => ?_)
                refine box_step ?hg (N := 5) ?hd (cs := #[.int .i64 0, .int .i64 0, .int .i64 0, .int .i64 0, .int .i64 0, .int .i64 0, .int .i64 0, .bool false, .int .i64 0, .int .i64 0]) (t := 50) ?hr ?_; (case hd => rfl); (case hg => rfl); (case hr => first | (go_simp; done) | (go_simp; rfl))
                intro gb243 hg w47 hbox hb
                have n0_ := Aside0.mk (blk_below (g := gb235) (o := .cells #[.int .i64 t224, .int .i64 t225, .int .i64 t226, .int .i64 t227, .int .i64 t228, .int .i64 t229, .int .i64 t230, .bool t231, .int .i64 t232, .int .i64 t233] 50 (0, 0)) (by (with_reducible repeat (first | refine blk_drewN ?_ _ | refine blk_drew ?_ | refine blk_alloc ?_ _)); exact BK235.out) hb)
                have n1_ := Aside0.mk (blk_below (g := gb244) (o := .cells #[.int .i64 0, .int .i64 0, .int .i64 0, .int .i64 0, .int .i64 0, .int .i64 0, .int .i64 0, .bool false, .int .i64 0, .int .i64 0] 50 (0, 0)) (by (with_reducible repeat (first | refine blk_drewN ?_ _ | refine blk_drew ?_ | refine blk_alloc ?_ _)); exact BK244.out) hb)
                have n2_ := Aside0.mk (blk_below (g := gb245) (o := .cells #[.int .i64 0, .int .i64 0, .int .i64 0, .int .i64 0, .int .i64 0, .int .i64 0, .int .i64 0, .bool false, .int .i64 0, .int .i64 0] 50 (0, 0)) (by (with_reducible repeat (first | refine blk_drewN ?_ _ | refine blk_drew ?_ | refine blk_alloc ?_ _)); exact BK245.out) hb)
                have n3_ := Aside0.mk (below_step (by repeat (first | (with_reducible first | exact HB.out | apply below_alloc | apply pw_below_drewN | apply below_drew1 | refine below_set ?_ GE235.out | refine below_set ?_ GE244.out | refine below_set ?_ GE245.out) | exact HB.out)) hb)
                have n4_ := Aside0.mk (hbox)
                have n5_ := Aside0.mk ((by rw [hg]; exact (below_size (by repeat (first | (with_reducible first | exact HB.out | apply below_alloc | apply pw_below_drewN | apply below_drew1 | refine below_set ?_ GE235.out | refine below_set ?_ GE244.out | refine below_set ?_ GE245.out) | exact HB.out))) : w.heap.size ≤ gb243))
                have n6_ := Aside0.mk ((by rw [hg]; exact (below_size (by repeat (first | (with_reducible first | exact HB.out | apply below_alloc | apply pw_below_drewN | apply below_drew1 | refine below_set ?_ GE235.out | refine below_set ?_ GE244.out | refine below_set ?_ GE245.out) | exact HB.out))) : w.heap.size ≤ gb243))
                have n7_ := Aside0.mk ((by rw [hg]; exact Nat.ne_of_lt (blk_lt (g := gb235) (o := .cells #[.int .i64 t224, .int .i64 t225, .int .i64 t226, .int .i64 t227, .int .i64 t228, .int .i64 t229, .int .i64 t230, .bool t231, .int .i64 t232, .int .i64 t233] 50 (0, 0)) (by (with_reducible repeat (first | refine blk_drewN ?_ _ | refine blk_drew ?_ | refine blk_alloc ?_ _)); exact BK235.out)) : gb235 ≠ gb243))
                have n8_ := Aside0.mk ((by rw [hg]; exact Nat.ne_of_gt (blk_lt (g := gb235) (o := .cells #[.int .i64 t224, .int .i64 t225, .int .i64 t226, .int .i64 t227, .int .i64 t228, .int .i64 t229, .int .i64 t230, .bool t231, .int .i64 t232, .int .i64 t233] 50 (0, 0)) (by (with_reducible repeat (first | refine blk_drewN ?_ _ | refine blk_drew ?_ | refine blk_alloc ?_ _)); exact BK235.out)) : gb243 ≠ gb235))
                have n9_ := Aside0.mk ((by rw [hg]; exact Nat.ne_of_lt (blk_lt (g := gb244) (o := .cells #[.int .i64 0, .int .i64 0, .int .i64 0, .int .i64 0, .int .i64 0, .int .i64 0, .int .i64 0, .bool false, .int .i64 0, .int .i64 0] 50 (0, 0)) (by (with_reducible repeat (first | refine blk_drewN ?_ _ | refine blk_drew ?_ | refine blk_alloc ?_ _)); exact BK244.out)) : gb244 ≠ gb243))
                have n10_ := Aside0.mk ((by rw [hg]; exact Nat.ne_of_gt (blk_lt (g := gb244) (o := .cells #[.int .i64 0, .int .i64 0, .int .i64 0, .int .i64 0, .int .i64 0, .int .i64 0, .int .i64 0, .bool false, .int .i64 0, .int .i64 0] 50 (0, 0)) (by (with_reducible repeat (first | refine blk_drewN ?_ _ | refine blk_drew ?_ | refine blk_alloc ?_ _)); exact BK244.out)) : gb243 ≠ gb244))
                have n11_ := Aside0.mk ((by rw [hg]; exact Nat.ne_of_lt (blk_lt (g := gb245) (o := .cells #[.int .i64 0, .int .i64 0, .int .i64 0, .int .i64 0, .int .i64 0, .int .i64 0, .int .i64 0, .bool false, .int .i64 0, .int .i64 0] 50 (0, 0)) (by (with_reducible repeat (first | refine blk_drewN ?_ _ | refine blk_drew ?_ | refine blk_alloc ?_ _)); exact BK245.out)) : gb245 ≠ gb243))
                have n12_ := Aside0.mk ((by rw [hg]; exact Nat.ne_of_gt (blk_lt (g := gb245) (o := .cells #[.int .i64 0, .int .i64 0, .int .i64 0, .int .i64 0, .int .i64 0, .int .i64 0, .int .i64 0, .bool false, .int .i64 0, .int .i64 0] 50 (0, 0)) (by (with_reducible repeat (first | refine blk_drewN ?_ _ | refine blk_drew ?_ | refine blk_alloc ?_ _)); exact BK245.out)) : gb243 ≠ gb245))
                clear BK235
                clear BK244
                clear BK245
                clear HB
                have BK235 := n0_
                have BK244 := n1_
                have BK245 := n2_
                have HB := n3_
                have BK243 := n4_
                have GW243 := n5_
                have GE243 := n6_
                have NB235_243 := n7_
                have NB243_235 := n8_
                have NB244_243 := n9_
                have NB243_244 := n10_
                have NB245_243 := n11_
                have NB243_245 := n12_
                clear n0_ n1_ n2_ n3_ n4_ n5_ n6_ n7_ n8_ n9_ n10_ n11_ n12_
                clear hb hbox hg
                refine hK.out _ _ ⟨(blk_cell BK235.out 0).trans rfl, (blk_cell BK235.out 1).trans rfl, (blk_cell BK235.out 2).trans rfl, (blk_cell BK235.out 3).trans rfl, (blk_cell BK235.out 4).trans rfl, (blk_cell BK235.out 5).trans rfl, (blk_cell BK235.out 6).trans rfl, (blk_cell BK235.out 7).trans rfl, (blk_cell BK235.out 8).trans rfl, (blk_cell BK235.out 9).trans rfl⟩ (fun hHeld => ?_)
                clear hK K
                refine norm_ (a' := ?_) ?_ ?_
                rotate_left
                ·show Act.put _ (some 5) _ = _
                 simp only [Act.put, List.setIfInBounds_toArray, List.set_cons_zero, List.set_cons_succ, i64_w, i32_w]
                 rfl
                exact norm_ (by first | (simp only [putAll, Act.put, List.setIfInBounds_toArray, List.set_cons_zero, List.set_cons_succ]; done) | (simp only [putAll, Act.put, List.setIfInBounds_toArray, List.set_cons_zero, List.set_cons_succ]; rfl)) (hJ3_4_5 (gb243, gb244, gb245) _ ⟨hHeld, (by (with_reducible repeat (first | refine blk_drewN ?_ _ | refine blk_drew ?_ | refine blk_alloc ?_ _)); exact BK235.out), (by (with_reducible repeat (first | refine blk_drewN ?_ _ | refine blk_drew ?_ | refine blk_alloc ?_ _)); exact BK243.out), (by (with_reducible repeat (first | refine blk_drewN ?_ _ | refine blk_drew ?_ | refine blk_alloc ?_ _)); exact BK244.out), (by (with_reducible repeat (first | refine blk_drewN ?_ _ | refine blk_drew ?_ | refine blk_alloc ?_ _)); exact BK245.out), GW243.out, GE243.out, NB235_243.out, NB243_235.out, NB244_243.out, NB243_244.out, NB245_243.out, NB243_245.out, GW244.out, GE244.out, NB235_244.out, NB244_235.out, NB245_244.out, NB244_245.out, GW245.out, GE245.out, NB235_245.out, NB245_235.out, (by repeat (first | (with_reducible first | exact HB.out | apply below_alloc | apply pw_below_drewN | apply below_drew1 | refine below_set ?_ GE235.out | refine below_set ?_ GE244.out | refine below_set ?_ GE245.out | refine below_set ?_ GE243.out) | exact HB.out))⟩)
              ·skip
               rintro ⟨gb243, gb245⟩ w46 ⟨hS_, h0_, h1_, h2_, h3_, h4_, h5_, h6_, h7_, h8_, h9_, h10_, h11_, h12_, h13_⟩
               have n0_ : Aside0 (w46.heap[gb235]? = some (.cells #[.int .i64 t224, .int .i64 t225, .int .i64 t226, .int .i64 t227, .int .i64 t228, .int .i64 t229, .int .i64 t230, .bool t231, .int .i64 t232, .int .i64 t233] 50 (0, 0))) := ⟨h0_⟩
               have n1_ : Aside0 (w46.heap[gb243]? = some (.cells #[.int .i64 0, .int .i64 0, .int .i64 0, .int .i64 0, .int .i64 0, .int .i64 0, .int .i64 0, .bool false, .int .i64 0, .int .i64 0] 50 (0, 0))) := ⟨h1_⟩
               have n2_ : Aside0 (w46.heap[gb245]? = some (.cells #[.int .i64 0, .int .i64 0, .int .i64 0, .int .i64 0, .int .i64 0, .int .i64 0, .int .i64 0, .bool false, .int .i64 0, .int .i64 0] 50 (0, 0))) := ⟨h2_⟩
               have n3_ : Aside0 (w.heap.size ≤ gb243) := ⟨h3_⟩
               have n4_ : Aside0 (w.heap.size ≤ gb243) := ⟨h4_⟩
               have n5_ : Aside0 (gb235 ≠ gb243) := ⟨h5_⟩
               have n6_ : Aside0 (gb243 ≠ gb235) := ⟨h6_⟩
               have n7_ : Aside0 (gb245 ≠ gb243) := ⟨h7_⟩
               have n8_ : Aside0 (gb243 ≠ gb245) := ⟨h8_⟩
               have n9_ : Aside0 (w.heap.size ≤ gb245) := ⟨h9_⟩
               have n10_ : Aside0 (w.heap.size ≤ gb245) := ⟨h10_⟩
               have n11_ : Aside0 (gb235 ≠ gb245) := ⟨h11_⟩
               have n12_ : Aside0 (gb245 ≠ gb235) := ⟨h12_⟩
               have n13_ : Aside0 (Below w.heap.size w w46) := ⟨h13_⟩
               clear BK235
               clear HB
               clear h0_ h1_ h2_ h3_ h4_ h5_ h6_ h7_ h8_ h9_ h10_ h11_ h12_ h13_
               have BK235 := n0_
               have BK243 := n1_
               have BK245 := n2_
               have GW243 := n3_
               have GE243 := n4_
               have NB235_243 := n5_
               have NB243_235 := n6_
               have NB245_243 := n7_
               have NB243_245 := n8_
               have GW245 := n9_
               have GE245 := n10_
               have NB235_245 := n11_
               have NB245_235 := n12_
               have HB := n13_
               clear n0_ n1_ n2_ n3_ n4_ n5_ n6_ n7_ n8_ n9_ n10_ n11_ n12_ n13_
               have hHeld : w46.cell? ⟨gb235, 0, none⟩ = some (.int .i64 t224) ∧ w46.cell? ⟨gb235, 1, none⟩ = some (.int .i64 t225) ∧ w46.cell? ⟨gb235, 2, none⟩ = some (.int .i64 t226) ∧ w46.cell? ⟨gb235, 3, none⟩ = some (.int .i64 t227) ∧ w46.cell? ⟨gb235, 4, none⟩ = some (.int .i64 t228) ∧ w46.cell? ⟨gb235, 5, none⟩ = some (.int .i64 t229) ∧ w46.cell? ⟨gb235, 6, none⟩ = some (.int .i64 t230) ∧ w46.cell? ⟨gb235, 7, none⟩ = some (.bool t231) ∧ w46.cell? ⟨gb235, 8, none⟩ = some (.int .i64 t232) ∧ w46.cell? ⟨gb235, 9, none⟩ = some (.int .i64 t233) := hS_
               refine norm_ (a' := ?_) ?_ ?_
               rotate_left
               ·simp only [putAll, Act.put, List.setIfInBounds_toArray, List.set_cons_zero, List.set_cons_succ]
                rfl
               refine one_ (i := 4) (N := some 6) #[true, true, true, true, true, true, false, false, false] rfl rfl (one_of HT_.out (by kernel_rfl)) (by decide) (fun K hK => ?_)
               refine box_step ?hg (N := 6) ?hd (cs := #[.int .i64 0, .int .i64 0, .int .i64 0, .int .i64 0, .int .i64 0, .int .i64 0, .int .i64 0, .bool false, .int .i64 0, .int .i64 0]) (t := 50) ?hr ?_; (case hd => rfl); (case hg => rfl); (case hr => first | (go_simp; done) | (go_simp; rfl))
               intro gb244 hg w47 hbox hb
               have n0_ := Aside0.mk (blk_below (g := gb235) (o := .cells #[.int .i64 t224, .int .i64 t225, .int .i64 t226, .int .i64 t227, .int .i64 t228, .int .i64 t229, .int .i64 t230, .bool t231, .int .i64 t232, .int .i64 t233] 50 (0, 0)) (by (with_reducible repeat (first | refine blk_drewN ?_ _ | refine blk_drew ?_ | refine blk_alloc ?_ _)); exact BK235.out) hb)
               have n1_ := Aside0.mk (blk_below (g := gb243) (o := .cells #[.int .i64 0, .int .i64 0, .int .i64 0, .int .i64 0, .int .i64 0, .int .i64 0, .int .i64 0, .bool false, .int .i64 0, .int .i64 0] 50 (0, 0)) (by (with_reducible repeat (first | refine blk_drewN ?_ _ | refine blk_drew ?_ | refine blk_alloc ?_ _)); exact BK243.out) hb)
               have n2_ := Aside0.mk (blk_below (g := gb245) (o := .cells #[.int .i64 0, .int .i64 0, .int .i64 0, .int .i64 0, .int .i64 0, .int .i64 0, .int .i64 0, .bool false, .int .i64 0, .int .i64 0] 50 (0, 0)) (by (with_reducible repeat (first | refine blk_drewN ?_ _ | refine blk_drew ?_ | refine blk_alloc ?_ _)); exact BK245.out) hb)
               have n3_ := Aside0.mk (below_step (by repeat (first | (with_reducible first | exact HB.out | apply below_alloc | apply pw_below_drewN | apply below_drew1 | refine below_set ?_ GE235.out | refine below_set ?_ GE243.out | refine below_set ?_ GE245.out) | exact HB.out)) hb)
               have n4_ := Aside0.mk (hbox)
               have n5_ := Aside0.mk ((by rw [hg]; exact (below_size (by repeat (first | (with_reducible first | exact HB.out | apply below_alloc | apply pw_below_drewN | apply below_drew1 | refine below_set ?_ GE235.out | refine below_set ?_ GE243.out | refine below_set ?_ GE245.out) | exact HB.out))) : w.heap.size ≤ gb244))
               have n6_ := Aside0.mk ((by rw [hg]; exact (below_size (by repeat (first | (with_reducible first | exact HB.out | apply below_alloc | apply pw_below_drewN | apply below_drew1 | refine below_set ?_ GE235.out | refine below_set ?_ GE243.out | refine below_set ?_ GE245.out) | exact HB.out))) : w.heap.size ≤ gb244))
               have n7_ := Aside0.mk ((by rw [hg]; exact Nat.ne_of_lt (blk_lt (g := gb235) (o := .cells #[.int .i64 t224, .int .i64 t225, .int .i64 t226, .int .i64 t227, .int .i64 t228, .int .i64 t229, .int .i64 t230, .bool t231, .int .i64 t232, .int .i64 t233] 50 (0, 0)) (by (with_reducible repeat (first | refine blk_drewN ?_ _ | refine blk_drew ?_ | refine blk_alloc ?_ _)); exact BK235.out)) : gb235 ≠ gb244))
               have n8_ := Aside0.mk ((by rw [hg]; exact Nat.ne_of_gt (blk_lt (g := gb235) (o := .cells #[.int .i64 t224, .int .i64 t225, .int .i64 t226, .int .i64 t227, .int .i64 t228, .int .i64 t229, .int .i64 t230, .bool t231, .int .i64 t232, .int .i64 t233] 50 (0, 0)) (by (with_reducible repeat (first | refine blk_drewN ?_ _ | refine blk_drew ?_ | refine blk_alloc ?_ _)); exact BK235.out)) : gb244 ≠ gb235))
               have n9_ := Aside0.mk ((by rw [hg]; exact Nat.ne_of_lt (blk_lt (g := gb243) (o := .cells #[.int .i64 0, .int .i64 0, .int .i64 0, .int .i64 0, .int .i64 0, .int .i64 0, .int .i64 0, .bool false, .int .i64 0, .int .i64 0] 50 (0, 0)) (by (with_reducible repeat (first | refine blk_drewN ?_ _ | refine blk_drew ?_ | refine blk_alloc ?_ _)); exact BK243.out)) : gb243 ≠ gb244))
               have n10_ := Aside0.mk ((by rw [hg]; exact Nat.ne_of_gt (blk_lt (g := gb243) (o := .cells #[.int .i64 0, .int .i64 0, .int .i64 0, .int .i64 0, .int .i64 0, .int .i64 0, .int .i64 0, .bool false, .int .i64 0, .int .i64 0] 50 (0, 0)) (by (with_reducible repeat (first | refine blk_drewN ?_ _ | refine blk_drew ?_ | refine blk_alloc ?_ _)); exact BK243.out)) : gb244 ≠ gb243))
               have n11_ := Aside0.mk ((by rw [hg]; exact Nat.ne_of_lt (blk_lt (g := gb245) (o := .cells #[.int .i64 0, .int .i64 0, .int .i64 0, .int .i64 0, .int .i64 0, .int .i64 0, .int .i64 0, .bool false, .int .i64 0, .int .i64 0] 50 (0, 0)) (by (with_reducible repeat (first | refine blk_drewN ?_ _ | refine blk_drew ?_ | refine blk_alloc ?_ _)); exact BK245.out)) : gb245 ≠ gb244))
               have n12_ := Aside0.mk ((by rw [hg]; exact Nat.ne_of_gt (blk_lt (g := gb245) (o := .cells #[.int .i64 0, .int .i64 0, .int .i64 0, .int .i64 0, .int .i64 0, .int .i64 0, .int .i64 0, .bool false, .int .i64 0, .int .i64 0] 50 (0, 0)) (by (with_reducible repeat (first | refine blk_drewN ?_ _ | refine blk_drew ?_ | refine blk_alloc ?_ _)); exact BK245.out)) : gb244 ≠ gb245))
               clear BK235
               clear BK243
               clear BK245
               clear HB
               have BK235 := n0_
               have BK243 := n1_
               have BK245 := n2_
               have HB := n3_
               have BK244 := n4_
               have GW244 := n5_
               have GE244 := n6_
               have NB235_244 := n7_
               have NB244_235 := n8_
               have NB243_244 := n9_
               have NB244_243 := n10_
               have NB245_244 := n11_
               have NB244_245 := n12_
               clear n0_ n1_ n2_ n3_ n4_ n5_ n6_ n7_ n8_ n9_ n10_ n11_ n12_
               clear hb hbox hg
               refine hK.out _ _ ⟨(blk_cell BK235.out 0).trans rfl, (blk_cell BK235.out 1).trans rfl, (blk_cell BK235.out 2).trans rfl, (blk_cell BK235.out 3).trans rfl, (blk_cell BK235.out 4).trans rfl, (blk_cell BK235.out 5).trans rfl, (blk_cell BK235.out 6).trans rfl, (blk_cell BK235.out 7).trans rfl, (blk_cell BK235.out 8).trans rfl, (blk_cell BK235.out 9).trans rfl⟩ (fun hHeld => ?_)
               clear hK K
               refine norm_ (a' := ?_) ?_ ?_
               rotate_left
               ·show Act.put _ (some 6) _ = _
                simp only [Act.put, List.setIfInBounds_toArray, List.set_cons_zero, List.set_cons_succ, i64_w, i32_w]
                rfl
               exact norm_ (by first | (simp only [putAll, Act.put, List.setIfInBounds_toArray, List.set_cons_zero, List.set_cons_succ]; done) | (simp only [putAll, Act.put, List.setIfInBounds_toArray, List.set_cons_zero, List.set_cons_succ]; rfl)) (hJ3_4_5 (gb243, gb244, gb245) _ ⟨hHeld, (by (with_reducible repeat (first | refine blk_drewN ?_ _ | refine blk_drew ?_ | refine blk_alloc ?_ _)); exact BK235.out), (by (with_reducible repeat (first | refine blk_drewN ?_ _ | refine blk_drew ?_ | refine blk_alloc ?_ _)); exact BK243.out), (by (with_reducible repeat (first | refine blk_drewN ?_ _ | refine blk_drew ?_ | refine blk_alloc ?_ _)); exact BK244.out), (by (with_reducible repeat (first | refine blk_drewN ?_ _ | refine blk_drew ?_ | refine blk_alloc ?_ _)); exact BK245.out), GW243.out, GE243.out, NB235_243.out, NB243_235.out, NB244_243.out, NB243_244.out, NB245_243.out, NB243_245.out, GW244.out, GE244.out, NB235_244.out, NB244_235.out, NB245_244.out, NB244_245.out, GW245.out, GE245.out, NB235_245.out, NB245_235.out, (by repeat (first | (with_reducible first | exact HB.out | apply below_alloc | apply pw_below_drewN | apply below_drew1 | refine below_set ?_ GE235.out | refine below_set ?_ GE243.out | refine below_set ?_ GE245.out | refine below_set ?_ GE244.out) | exact HB.out))⟩)
             ·skip
              rintro ⟨gb243, gb244⟩ w46 ⟨hS_, h0_, h1_, h2_, h3_, h4_, h5_, h6_, h7_, h8_, h9_, h10_, h11_, h12_, h13_⟩
              have n0_ : Aside0 (w46.heap[gb235]? = some (.cells #[.int .i64 t224, .int .i64 t225, .int .i64 t226, .int .i64 t227, .int .i64 t228, .int .i64 t229, .int .i64 t230, .bool t231, .int .i64 t232, .int .i64 t233] 50 (0, 0))) := ⟨h0_⟩
              have n1_ : Aside0 (w46.heap[gb243]? = some (.cells #[.int .i64 0, .int .i64 0, .int .i64 0, .int .i64 0, .int .i64 0, .int .i64 0, .int .i64 0, .bool false, .int .i64 0, .int .i64 0] 50 (0, 0))) := ⟨h1_⟩
              have n2_ : Aside0 (w46.heap[gb244]? = some (.cells #[.int .i64 0, .int .i64 0, .int .i64 0, .int .i64 0, .int .i64 0, .int .i64 0, .int .i64 0, .bool false, .int .i64 0, .int .i64 0] 50 (0, 0))) := ⟨h2_⟩
              have n3_ : Aside0 (w.heap.size ≤ gb243) := ⟨h3_⟩
              have n4_ : Aside0 (w.heap.size ≤ gb243) := ⟨h4_⟩
              have n5_ : Aside0 (gb235 ≠ gb243) := ⟨h5_⟩
              have n6_ : Aside0 (gb243 ≠ gb235) := ⟨h6_⟩
              have n7_ : Aside0 (gb244 ≠ gb243) := ⟨h7_⟩
              have n8_ : Aside0 (gb243 ≠ gb244) := ⟨h8_⟩
              have n9_ : Aside0 (w.heap.size ≤ gb244) := ⟨h9_⟩
              have n10_ : Aside0 (w.heap.size ≤ gb244) := ⟨h10_⟩
              have n11_ : Aside0 (gb235 ≠ gb244) := ⟨h11_⟩
              have n12_ : Aside0 (gb244 ≠ gb235) := ⟨h12_⟩
              have n13_ : Aside0 (Below w.heap.size w w46) := ⟨h13_⟩
              clear BK235
              clear HB
              clear h0_ h1_ h2_ h3_ h4_ h5_ h6_ h7_ h8_ h9_ h10_ h11_ h12_ h13_
              have BK235 := n0_
              have BK243 := n1_
              have BK244 := n2_
              have GW243 := n3_
              have GE243 := n4_
              have NB235_243 := n5_
              have NB243_235 := n6_
              have NB244_243 := n7_
              have NB243_244 := n8_
              have GW244 := n9_
              have GE244 := n10_
              have NB235_244 := n11_
              have NB244_235 := n12_
              have HB := n13_
              clear n0_ n1_ n2_ n3_ n4_ n5_ n6_ n7_ n8_ n9_ n10_ n11_ n12_ n13_
              have hHeld : w46.cell? ⟨gb235, 0, none⟩ = some (.int .i64 t224) ∧ w46.cell? ⟨gb235, 1, none⟩ = some (.int .i64 t225) ∧ w46.cell? ⟨gb235, 2, none⟩ = some (.int .i64 t226) ∧ w46.cell? ⟨gb235, 3, none⟩ = some (.int .i64 t227) ∧ w46.cell? ⟨gb235, 4, none⟩ = some (.int .i64 t228) ∧ w46.cell? ⟨gb235, 5, none⟩ = some (.int .i64 t229) ∧ w46.cell? ⟨gb235, 6, none⟩ = some (.int .i64 t230) ∧ w46.cell? ⟨gb235, 7, none⟩ = some (.bool t231) ∧ w46.cell? ⟨gb235, 8, none⟩ = some (.int .i64 t232) ∧ w46.cell? ⟨gb235, 9, none⟩ = some (.int .i64 t233) := hS_
              refine norm_ (a' := ?_) ?_ ?_
              rotate_left
              ·simp only [putAll, Act.put, List.setIfInBounds_toArray, List.set_cons_zero, List.set_cons_succ]
               rfl
              refine one_ (i := 5) (N := some 7) #[true, true, true, true, true, true, false, false, false] rfl rfl (one_of HT_.out (by kernel_rfl)) (by decide) (fun K hK => ?_)
              refine box_step ?hg (N := 7) ?hd (cs := #[.int .i64 0, .int .i64 0, .int .i64 0, .int .i64 0, .int .i64 0, .int .i64 0, .int .i64 0, .bool false, .int .i64 0, .int .i64 0]) (t := 50) ?hr ?_; (case hd => rfl); (case hg => rfl); (case hr => first | (go_simp; done) | (go_simp; rfl))
              intro gb245 hg w47 hbox hb
              have n0_ := Aside0.mk (blk_below (g := gb235) (o := .cells #[.int .i64 t224, .int .i64 t225, .int .i64 t226, .int .i64 t227, .int .i64 t228, .int .i64 t229, .int .i64 t230, .bool t231, .int .i64 t232, .int .i64 t233] 50 (0, 0)) (by (with_reducible repeat (first | refine blk_drewN ?_ _ | refine blk_drew ?_ | refine blk_alloc ?_ _)); exact BK235.out) hb)
              have n1_ := Aside0.mk (blk_below (g := gb243) (o := .cells #[.int .i64 0, .int .i64 0, .int .i64 0, .int .i64 0, .int .i64 0, .int .i64 0, .int .i64 0, .bool false, .int .i64 0, .int .i64 0] 50 (0, 0)) (by (with_reducible repeat (first | refine blk_drewN ?_ _ | refine blk_drew ?_ | refine blk_alloc ?_ _)); exact BK243.out) hb)
              have n2_ := Aside0.mk (blk_below (g := gb244) (o := .cells #[.int .i64 0, .int .i64 0, .int .i64 0, .int .i64 0, .int .i64 0, .int .i64 0, .int .i64 0, .bool false, .int .i64 0, .int .i64 0] 50 (0, 0)) (by (with_reducible repeat (first | refine blk_drewN ?_ _ | refine blk_drew ?_ | refine blk_alloc ?_ _)); exact BK244.out) hb)
              have n3_ := Aside0.mk (below_step (by repeat (first | (with_reducible first | exact HB.out | apply below_alloc | apply pw_below_drewN | apply below_drew1 | refine below_set ?_ GE235.out | refine below_set ?_ GE243.out | refine below_set ?_ GE244.out) | exact HB.out)) hb)
              have n4_ := Aside0.mk (hbox)
              have n5_ := Aside0.mk ((by rw [hg]; exact (below_size (by repeat (first | (with_reducible first | exact HB.out | apply below_alloc | apply pw_below_drewN | apply below_drew1 | refine below_set ?_ GE235.out | refine below_set ?_ GE243.out | refine below_set ?_ GE244.out) | exact HB.out))) : w.heap.size ≤ gb245))
              have n6_ := Aside0.mk ((by rw [hg]; exact (below_size (by repeat (first | (with_reducible first | exact HB.out | apply below_alloc | apply pw_below_drewN | apply below_drew1 | refine below_set ?_ GE235.out | refine below_set ?_ GE243.out | refine below_set ?_ GE244.out) | exact HB.out))) : w.heap.size ≤ gb245))
              have n7_ := Aside0.mk ((by rw [hg]; exact Nat.ne_of_lt (blk_lt (g := gb235) (o := .cells #[.int .i64 t224, .int .i64 t225, .int .i64 t226, .int .i64 t227, .int .i64 t228, .int .i64 t229, .int .i64 t230, .bool t231, .int .i64 t232, .int .i64 t233] 50 (0, 0)) (by (with_reducible repeat (first | refine blk_drewN ?_ _ | refine blk_drew ?_ | refine blk_alloc ?_ _)); exact BK235.out)) : gb235 ≠ gb245))
              have n8_ := Aside0.mk ((by rw [hg]; exact Nat.ne_of_gt (blk_lt (g := gb235) (o := .cells #[.int .i64 t224, .int .i64 t225, .int .i64 t226, .int .i64 t227, .int .i64 t228, .int .i64 t229, .int .i64 t230, .bool t231, .int .i64 t232, .int .i64 t233] 50 (0, 0)) (by (with_reducible repeat (first | refine blk_drewN ?_ _ | refine blk_drew ?_ | refine blk_alloc ?_ _)); exact BK235.out)) : gb245 ≠ gb235))
              have n9_ := Aside0.mk ((by rw [hg]; exact Nat.ne_of_lt (blk_lt (g := gb243) (o := .cells #[.int .i64 0, .int .i64 0, .int .i64 0, .int .i64 0, .int .i64 0, .int .i64 0, .int .i64 0, .bool false, .int .i64 0, .int .i64 0] 50 (0, 0)) (by (with_reducible repeat (first | refine blk_drewN ?_ _ | refine blk_drew ?_ | refine blk_alloc ?_ _)); exact BK243.out)) : gb243 ≠ gb245))
              have n10_ := Aside0.mk ((by rw [hg]; exact Nat.ne_of_gt (blk_lt (g := gb243) (o := .cells #[.int .i64 0, .int .i64 0, .int .i64 0, .int .i64 0, .int .i64 0, .int .i64 0, .int .i64 0, .bool false, .int .i64 0, .int .i64 0] 50 (0, 0)) (by (with_reducible repeat (first | refine blk_drewN ?_ _ | refine blk_drew ?_ | refine blk_alloc ?_ _)); exact BK243.out)) : gb245 ≠ gb243))
              have n11_ := Aside0.mk ((by rw [hg]; exact Nat.ne_of_lt (blk_lt (g := gb244) (o := .cells #[.int .i64 0, .int .i64 0, .int .i64 0, .int .i64 0, .int .i64 0, .int .i64 0, .int .i64 0, .bool false, .int .i64 0, .int .i64 0] 50 (0, 0)) (by (with_reducible repeat (first | refine blk_drewN ?_ _ | refine blk_drew ?_ | refine blk_alloc ?_ _)); exact BK244.out)) : gb244 ≠ gb245))
              have n12_ := Aside0.mk ((by rw [hg]; exact Nat.ne_of_gt (blk_lt (g := gb244) (o := .cells #[.int .i64 0, .int .i64 0, .int .i64 0, .int .i64 0, .int .i64 0, .int .i64 0, .int .i64 0, .bool false, .int .i64 0, .int .i64 0] 50 (0, 0)) (by (with_reducible repeat (first | refine blk_drewN ?_ _ | refine blk_drew ?_ | refine blk_alloc ?_ _)); exact BK244.out)) : gb245 ≠ gb244))
              clear BK235
              clear BK243
              clear BK244
              clear HB
              have BK235 := n0_
              have BK243 := n1_
              have BK244 := n2_
              have HB := n3_
              have BK245 := n4_
              have GW245 := n5_
              have GE245 := n6_
              have NB235_245 := n7_
              have NB245_235 := n8_
              have NB243_245 := n9_
              have NB245_243 := n10_
              have NB244_245 := n11_
              have NB245_244 := n12_
              clear n0_ n1_ n2_ n3_ n4_ n5_ n6_ n7_ n8_ n9_ n10_ n11_ n12_
              clear hb hbox hg
              refine hK.out _ _ ⟨(blk_cell BK235.out 0).trans rfl, (blk_cell BK235.out 1).trans rfl, (blk_cell BK235.out 2).trans rfl, (blk_cell BK235.out 3).trans rfl, (blk_cell BK235.out 4).trans rfl, (blk_cell BK235.out 5).trans rfl, (blk_cell BK235.out 6).trans rfl, (blk_cell BK235.out 7).trans rfl, (blk_cell BK235.out 8).trans rfl, (blk_cell BK235.out 9).trans rfl⟩ (fun hHeld => ?_)
              clear hK K
              refine norm_ (a' := ?_) ?_ ?_
              rotate_left
              ·show Act.put _ (some 7) _ = _
               simp only [Act.put, List.setIfInBounds_toArray, List.set_cons_zero, List.set_cons_succ, i64_w, i32_w]
               rfl
              exact norm_ (by first | (simp only [putAll, Act.put, List.setIfInBounds_toArray, List.set_cons_zero, List.set_cons_succ]; done) | (simp only [putAll, Act.put, List.setIfInBounds_toArray, List.set_cons_zero, List.set_cons_succ]; rfl)) (hJ3_4_5 (gb243, gb244, gb245) _ ⟨hHeld, (by (with_reducible repeat (first | refine blk_drewN ?_ _ | refine blk_drew ?_ | refine blk_alloc ?_ _)); exact BK235.out), (by (with_reducible repeat (first | refine blk_drewN ?_ _ | refine blk_drew ?_ | refine blk_alloc ?_ _)); exact BK243.out), (by (with_reducible repeat (first | refine blk_drewN ?_ _ | refine blk_drew ?_ | refine blk_alloc ?_ _)); exact BK244.out), (by (with_reducible repeat (first | refine blk_drewN ?_ _ | refine blk_drew ?_ | refine blk_alloc ?_ _)); exact BK245.out), GW243.out, GE243.out, NB235_243.out, NB243_235.out, NB244_243.out, NB243_244.out, NB245_243.out, NB243_245.out, GW244.out, GE244.out, NB235_244.out, NB244_235.out, NB245_244.out, NB244_245.out, GW245.out, GE245.out, NB235_245.out, NB245_235.out, (by repeat (first | (with_reducible first | exact HB.out | apply below_alloc | apply pw_below_drewN | apply below_drew1 | refine below_set ?_ GE235.out | refine below_set ?_ GE243.out | refine below_set ?_ GE244.out | refine below_set ?_ GE245.out) | exact HB.out))⟩)
            rintro ⟨gb243, gb244, gb245⟩ w47 ⟨hS_, h0_, h1_, h2_, h3_, h4_, h5_, h6_, h7_, h8_, h9_, h10_, h11_, h12_, h13_, h14_, h15_, h16_, h17_, h18_, h19_, h20_, h21_, h22_⟩
            have n0_ : Aside0 (w47.heap[gb235]? = some (.cells #[.int .i64 t224, .int .i64 t225, .int .i64 t226, .int .i64 t227, .int .i64 t228, .int .i64 t229, .int .i64 t230, .bool t231, .int .i64 t232, .int .i64 t233] 50 (0, 0))) := ⟨h0_⟩
            have n1_ : Aside0 (w47.heap[gb243]? = some (.cells #[.int .i64 0, .int .i64 0, .int .i64 0, .int .i64 0, .int .i64 0, .int .i64 0, .int .i64 0, .bool false, .int .i64 0, .int .i64 0] 50 (0, 0))) := ⟨h1_⟩
            have n2_ : Aside0 (w47.heap[gb244]? = some (.cells #[.int .i64 0, .int .i64 0, .int .i64 0, .int .i64 0, .int .i64 0, .int .i64 0, .int .i64 0, .bool false, .int .i64 0, .int .i64 0] 50 (0, 0))) := ⟨h2_⟩
            have n3_ : Aside0 (w47.heap[gb245]? = some (.cells #[.int .i64 0, .int .i64 0, .int .i64 0, .int .i64 0, .int .i64 0, .int .i64 0, .int .i64 0, .bool false, .int .i64 0, .int .i64 0] 50 (0, 0))) := ⟨h3_⟩
            have n4_ : Aside0 (w.heap.size ≤ gb243) := ⟨h4_⟩
            have n5_ : Aside0 (w.heap.size ≤ gb243) := ⟨h5_⟩
            have n6_ : Aside0 (gb235 ≠ gb243) := ⟨h6_⟩
            have n7_ : Aside0 (gb243 ≠ gb235) := ⟨h7_⟩
            have n8_ : Aside0 (gb244 ≠ gb243) := ⟨h8_⟩
            have n9_ : Aside0 (gb243 ≠ gb244) := ⟨h9_⟩
            have n10_ : Aside0 (gb245 ≠ gb243) := ⟨h10_⟩
            have n11_ : Aside0 (gb243 ≠ gb245) := ⟨h11_⟩
            have n12_ : Aside0 (w.heap.size ≤ gb244) := ⟨h12_⟩
            have n13_ : Aside0 (w.heap.size ≤ gb244) := ⟨h13_⟩
            have n14_ : Aside0 (gb235 ≠ gb244) := ⟨h14_⟩
            have n15_ : Aside0 (gb244 ≠ gb235) := ⟨h15_⟩
            have n16_ : Aside0 (gb245 ≠ gb244) := ⟨h16_⟩
            have n17_ : Aside0 (gb244 ≠ gb245) := ⟨h17_⟩
            have n18_ : Aside0 (w.heap.size ≤ gb245) := ⟨h18_⟩
            have n19_ : Aside0 (w.heap.size ≤ gb245) := ⟨h19_⟩
            have n20_ : Aside0 (gb235 ≠ gb245) := ⟨h20_⟩
            have n21_ : Aside0 (gb245 ≠ gb235) := ⟨h21_⟩
            have n22_ : Aside0 (Below w.heap.size w w47) := ⟨h22_⟩
            clear BK235
            clear HB
            clear h0_ h1_ h2_ h3_ h4_ h5_ h6_ h7_ h8_ h9_ h10_ h11_ h12_ h13_ h14_ h15_ h16_ h17_ h18_ h19_ h20_ h21_ h22_
            have BK235 := n0_
            have BK243 := n1_
            have BK244 := n2_
            have BK245 := n3_
            have GW243 := n4_
            have GE243 := n5_
            have NB235_243 := n6_
            have NB243_235 := n7_
            have NB244_243 := n8_
            have NB243_244 := n9_
            have NB245_243 := n10_
            have NB243_245 := n11_
            have GW244 := n12_
            have GE244 := n13_
            have NB235_244 := n14_
            have NB244_235 := n15_
            have NB245_244 := n16_
            have NB244_245 := n17_
            have GW245 := n18_
            have GE245 := n19_
            have NB235_245 := n20_
            have NB245_235 := n21_
            have HB := n22_
            clear n0_ n1_ n2_ n3_ n4_ n5_ n6_ n7_ n8_ n9_ n10_ n11_ n12_ n13_ n14_ n15_ n16_ n17_ n18_ n19_ n20_ n21_ n22_
            have hHeld : w47.cell? ⟨gb235, 0, none⟩ = some (.int .i64 t224) ∧ w47.cell? ⟨gb235, 1, none⟩ = some (.int .i64 t225) ∧ w47.cell? ⟨gb235, 2, none⟩ = some (.int .i64 t226) ∧ w47.cell? ⟨gb235, 3, none⟩ = some (.int .i64 t227) ∧ w47.cell? ⟨gb235, 4, none⟩ = some (.int .i64 t228) ∧ w47.cell? ⟨gb235, 5, none⟩ = some (.int .i64 t229) ∧ w47.cell? ⟨gb235, 6, none⟩ = some (.int .i64 t230) ∧ w47.cell? ⟨gb235, 7, none⟩ = some (.bool t231) ∧ w47.cell? ⟨gb235, 8, none⟩ = some (.int .i64 t232) ∧ w47.cell? ⟨gb235, 9, none⟩ = some (.int .i64 t233) := hS_
            refine norm_ (a' := ?_) ?_ ?_
            rotate_left
            ·simp only [putAll, Act.put, List.setIfInBounds_toArray, List.set_cons_zero, List.set_cons_succ]
             rfl
            refine one_ (i := 6) (N := none) #[true, true, true, true, true, true, true, false, false] rfl rfl (one_of HT_.out (by kernel_rfl)) (by decide) (fun K hK => ?_)
            have hs_0 : w47.cell? ⟨gb243, 0, none⟩ = some (.int .i64 0) := (blk_cell BK243.out 0).trans rfl
            have hf_0 := blk_frozen BK243.out 0
            have hs_1 : w47.cell? ⟨gb243, 1, none⟩ = some (.int .i64 0) := (blk_cell BK243.out 1).trans rfl
            have hf_1 := blk_frozen BK243.out 1
            have hs_2 : w47.cell? ⟨gb243, 2, none⟩ = some (.int .i64 0) := (blk_cell BK243.out 2).trans rfl
            have hf_2 := blk_frozen BK243.out 2
            have hs_3 : w47.cell? ⟨gb243, 3, none⟩ = some (.int .i64 0) := (blk_cell BK243.out 3).trans rfl
            have hf_3 := blk_frozen BK243.out 3
            have hs_4 : w47.cell? ⟨gb243, 4, none⟩ = some (.int .i64 0) := (blk_cell BK243.out 4).trans rfl
            have hf_4 := blk_frozen BK243.out 4
            have hs_5 : w47.cell? ⟨gb243, 5, none⟩ = some (.int .i64 0) := (blk_cell BK243.out 5).trans rfl
            have hf_5 := blk_frozen BK243.out 5
            have hs_6 : w47.cell? ⟨gb243, 6, none⟩ = some (.int .i64 0) := (blk_cell BK243.out 6).trans rfl
            have hf_6 := blk_frozen BK243.out 6
            have hs_7 : w47.cell? ⟨gb243, 7, none⟩ = some (.bool false) := (blk_cell BK243.out 7).trans rfl
            have hf_7 := blk_frozen BK243.out 7
            have hs_8 : w47.cell? ⟨gb243, 8, none⟩ = some (.int .i64 0) := (blk_cell BK243.out 8).trans rfl
            have hf_8 := blk_frozen BK243.out 8
            have hs_9 : w47.cell? ⟨gb243, 9, none⟩ = some (.int .i64 0) := (blk_cell BK243.out 9).trans rfl
            have hf_9 := blk_frozen BK243.out 9
            refine skip_ (w1 := ?_) (by rfl) rfl ?_ ?_
            rotate_left
            ·go_simp
             rfl
            clear hs_0 hf_0 hs_1 hf_1 hs_2 hf_2 hs_3 hf_3 hs_4 hf_4 hs_5 hf_5 hs_6 hf_6 hs_7 hf_7 hs_8 hf_8 hs_9 hf_9
            have m0_ : Aside0 (((((((((((w47.setCell ⟨gb243, 0, none⟩ (.int .i64 t224)).setCell ⟨gb243, 1, none⟩ (.int .i64 t225)).setCell ⟨gb243, 2, none⟩ (.int .i64 t226)).setCell ⟨gb243, 3, none⟩ (.int .i64 t227)).setCell ⟨gb243, 4, none⟩ (.int .i64 t228)).setCell ⟨gb243, 5, none⟩ (.int .i64 t229)).setCell ⟨gb243, 6, none⟩ (.int .i64 t230)).setCell ⟨gb243, 7, none⟩ (.bool t231)).setCell ⟨gb243, 8, none⟩ (.int .i64 t232)).setCell ⟨gb243, 9, none⟩ (.int .i64 t233)).heap[gb235]? = some (.cells #[.int .i64 t224, .int .i64 t225, .int .i64 t226, .int .i64 t227, .int .i64 t228, .int .i64 t229, .int .i64 t230, .bool t231, .int .i64 t232, .int .i64 t233] 50 (0, 0))) := ⟨put10_far BK235.out NB235_243.out _ _ _ _ _ _ _ _ _ _⟩
            have m1_ : Aside0 (((((((((((w47.setCell ⟨gb243, 0, none⟩ (.int .i64 t224)).setCell ⟨gb243, 1, none⟩ (.int .i64 t225)).setCell ⟨gb243, 2, none⟩ (.int .i64 t226)).setCell ⟨gb243, 3, none⟩ (.int .i64 t227)).setCell ⟨gb243, 4, none⟩ (.int .i64 t228)).setCell ⟨gb243, 5, none⟩ (.int .i64 t229)).setCell ⟨gb243, 6, none⟩ (.int .i64 t230)).setCell ⟨gb243, 7, none⟩ (.bool t231)).setCell ⟨gb243, 8, none⟩ (.int .i64 t232)).setCell ⟨gb243, 9, none⟩ (.int .i64 t233)).heap[gb243]? = some (.cells #[.int .i64 t224, .int .i64 t225, .int .i64 t226, .int .i64 t227, .int .i64 t228, .int .i64 t229, .int .i64 t230, .bool t231, .int .i64 t232, .int .i64 t233] 50 (0, 0))) := ⟨put10_self BK243.out _ _ _ _ _ _ _ _ _ _⟩
            have m2_ : Aside0 (((((((((((w47.setCell ⟨gb243, 0, none⟩ (.int .i64 t224)).setCell ⟨gb243, 1, none⟩ (.int .i64 t225)).setCell ⟨gb243, 2, none⟩ (.int .i64 t226)).setCell ⟨gb243, 3, none⟩ (.int .i64 t227)).setCell ⟨gb243, 4, none⟩ (.int .i64 t228)).setCell ⟨gb243, 5, none⟩ (.int .i64 t229)).setCell ⟨gb243, 6, none⟩ (.int .i64 t230)).setCell ⟨gb243, 7, none⟩ (.bool t231)).setCell ⟨gb243, 8, none⟩ (.int .i64 t232)).setCell ⟨gb243, 9, none⟩ (.int .i64 t233)).heap[gb244]? = some (.cells #[.int .i64 0, .int .i64 0, .int .i64 0, .int .i64 0, .int .i64 0, .int .i64 0, .int .i64 0, .bool false, .int .i64 0, .int .i64 0] 50 (0, 0))) := ⟨put10_far BK244.out NB244_243.out _ _ _ _ _ _ _ _ _ _⟩
            have m3_ : Aside0 (((((((((((w47.setCell ⟨gb243, 0, none⟩ (.int .i64 t224)).setCell ⟨gb243, 1, none⟩ (.int .i64 t225)).setCell ⟨gb243, 2, none⟩ (.int .i64 t226)).setCell ⟨gb243, 3, none⟩ (.int .i64 t227)).setCell ⟨gb243, 4, none⟩ (.int .i64 t228)).setCell ⟨gb243, 5, none⟩ (.int .i64 t229)).setCell ⟨gb243, 6, none⟩ (.int .i64 t230)).setCell ⟨gb243, 7, none⟩ (.bool t231)).setCell ⟨gb243, 8, none⟩ (.int .i64 t232)).setCell ⟨gb243, 9, none⟩ (.int .i64 t233)).heap[gb245]? = some (.cells #[.int .i64 0, .int .i64 0, .int .i64 0, .int .i64 0, .int .i64 0, .int .i64 0, .int .i64 0, .bool false, .int .i64 0, .int .i64 0] 50 (0, 0))) := ⟨put10_far BK245.out NB245_243.out _ _ _ _ _ _ _ _ _ _⟩
            have m4_ : Aside0 (Below w.heap.size w ((((((((((w47.setCell ⟨gb243, 0, none⟩ (.int .i64 t224)).setCell ⟨gb243, 1, none⟩ (.int .i64 t225)).setCell ⟨gb243, 2, none⟩ (.int .i64 t226)).setCell ⟨gb243, 3, none⟩ (.int .i64 t227)).setCell ⟨gb243, 4, none⟩ (.int .i64 t228)).setCell ⟨gb243, 5, none⟩ (.int .i64 t229)).setCell ⟨gb243, 6, none⟩ (.int .i64 t230)).setCell ⟨gb243, 7, none⟩ (.bool t231)).setCell ⟨gb243, 8, none⟩ (.int .i64 t232)).setCell ⟨gb243, 9, none⟩ (.int .i64 t233))) := ⟨put10_below HB.out GE243.out _ _ _ _ _ _ _ _ _ _⟩
            clear BK235 BK243 BK244 BK245 HB hHeld
            generalize ((((((((((w47.setCell ⟨gb243, 0, none⟩ (.int .i64 t224)).setCell ⟨gb243, 1, none⟩ (.int .i64 t225)).setCell ⟨gb243, 2, none⟩ (.int .i64 t226)).setCell ⟨gb243, 3, none⟩ (.int .i64 t227)).setCell ⟨gb243, 4, none⟩ (.int .i64 t228)).setCell ⟨gb243, 5, none⟩ (.int .i64 t229)).setCell ⟨gb243, 6, none⟩ (.int .i64 t230)).setCell ⟨gb243, 7, none⟩ (.bool t231)).setCell ⟨gb243, 8, none⟩ (.int .i64 t232)).setCell ⟨gb243, 9, none⟩ (.int .i64 t233)) = w47p0 at m0_ m1_ m2_ m3_ m4_ ⊢
            have BK235 := m0_
            have BK243 := m1_
            have BK244 := m2_
            have BK245 := m3_
            have HB := m4_
            clear m0_ m1_ m2_ m3_ m4_
            refine hK.out _ _ ⟨(blk_cell BK235.out 0).trans rfl, (blk_cell BK235.out 1).trans rfl, (blk_cell BK235.out 2).trans rfl, (blk_cell BK235.out 3).trans rfl, (blk_cell BK235.out 4).trans rfl, (blk_cell BK235.out 5).trans rfl, (blk_cell BK235.out 6).trans rfl, (blk_cell BK235.out 7).trans rfl, (blk_cell BK235.out 8).trans rfl, (blk_cell BK235.out 9).trans rfl⟩ (fun hHeld => ?_)
            clear hK K
            refine one_ (i := 7) (N := none) #[true, true, true, true, true, true, true, true, false] rfl rfl (one_of HT_.out (by kernel_rfl)) (by decide) (fun K hK => ?_)
            have hs_0 : w47p0.cell? ⟨gb244, 0, none⟩ = some (.int .i64 0) := (blk_cell BK244.out 0).trans rfl
            have hf_0 := blk_frozen BK244.out 0
            have hs_1 : w47p0.cell? ⟨gb244, 1, none⟩ = some (.int .i64 0) := (blk_cell BK244.out 1).trans rfl
            have hf_1 := blk_frozen BK244.out 1
            have hs_2 : w47p0.cell? ⟨gb244, 2, none⟩ = some (.int .i64 0) := (blk_cell BK244.out 2).trans rfl
            have hf_2 := blk_frozen BK244.out 2
            have hs_3 : w47p0.cell? ⟨gb244, 3, none⟩ = some (.int .i64 0) := (blk_cell BK244.out 3).trans rfl
            have hf_3 := blk_frozen BK244.out 3
            have hs_4 : w47p0.cell? ⟨gb244, 4, none⟩ = some (.int .i64 0) := (blk_cell BK244.out 4).trans rfl
            have hf_4 := blk_frozen BK244.out 4
            have hs_5 : w47p0.cell? ⟨gb244, 5, none⟩ = some (.int .i64 0) := (blk_cell BK244.out 5).trans rfl
            have hf_5 := blk_frozen BK244.out 5
            have hs_6 : w47p0.cell? ⟨gb244, 6, none⟩ = some (.int .i64 0) := (blk_cell BK244.out 6).trans rfl
            have hf_6 := blk_frozen BK244.out 6
            have hs_7 : w47p0.cell? ⟨gb244, 7, none⟩ = some (.bool false) := (blk_cell BK244.out 7).trans rfl
            have hf_7 := blk_frozen BK244.out 7
            have hs_8 : w47p0.cell? ⟨gb244, 8, none⟩ = some (.int .i64 0) := (blk_cell BK244.out 8).trans rfl
            have hf_8 := blk_frozen BK244.out 8
            have hs_9 : w47p0.cell? ⟨gb244, 9, none⟩ = some (.int .i64 0) := (blk_cell BK244.out 9).trans rfl
            have hf_9 := blk_frozen BK244.out 9
            refine skip_ (w1 := ?_) (by rfl) rfl ?_ ?_
            rotate_left
            ·go_simp
             rfl
            clear hs_0 hf_0 hs_1 hf_1 hs_2 hf_2 hs_3 hf_3 hs_4 hf_4 hs_5 hf_5 hs_6 hf_6 hs_7 hf_7 hs_8 hf_8 hs_9 hf_9
            have m0_ : Aside0 (((((((((((w47p0.setCell ⟨gb244, 0, none⟩ (.int .i64 t224)).setCell ⟨gb244, 1, none⟩ (.int .i64 t225)).setCell ⟨gb244, 2, none⟩ (.int .i64 t226)).setCell ⟨gb244, 3, none⟩ (.int .i64 t227)).setCell ⟨gb244, 4, none⟩ (.int .i64 t228)).setCell ⟨gb244, 5, none⟩ (.int .i64 t229)).setCell ⟨gb244, 6, none⟩ (.int .i64 t230)).setCell ⟨gb244, 7, none⟩ (.bool t231)).setCell ⟨gb244, 8, none⟩ (.int .i64 t232)).setCell ⟨gb244, 9, none⟩ (.int .i64 t233)).heap[gb235]? = some (.cells #[.int .i64 t224, .int .i64 t225, .int .i64 t226, .int .i64 t227, .int .i64 t228, .int .i64 t229, .int .i64 t230, .bool t231, .int .i64 t232, .int .i64 t233] 50 (0, 0))) := ⟨put10_far BK235.out NB235_244.out _ _ _ _ _ _ _ _ _ _⟩
            have m1_ : Aside0 (((((((((((w47p0.setCell ⟨gb244, 0, none⟩ (.int .i64 t224)).setCell ⟨gb244, 1, none⟩ (.int .i64 t225)).setCell ⟨gb244, 2, none⟩ (.int .i64 t226)).setCell ⟨gb244, 3, none⟩ (.int .i64 t227)).setCell ⟨gb244, 4, none⟩ (.int .i64 t228)).setCell ⟨gb244, 5, none⟩ (.int .i64 t229)).setCell ⟨gb244, 6, none⟩ (.int .i64 t230)).setCell ⟨gb244, 7, none⟩ (.bool t231)).setCell ⟨gb244, 8, none⟩ (.int .i64 t232)).setCell ⟨gb244, 9, none⟩ (.int .i64 t233)).heap[gb243]? = some (.cells #[.int .i64 t224, .int .i64 t225, .int .i64 t226, .int .i64 t227, .int .i64 t228, .int .i64 t229, .int .i64 t230, .bool t231, .int .i64 t232, .int .i64 t233] 50 (0, 0))) := ⟨put10_far BK243.out NB243_244.out _ _ _ _ _ _ _ _ _ _⟩
            have m2_ : Aside0 (((((((((((w47p0.setCell ⟨gb244, 0, none⟩ (.int .i64 t224)).setCell ⟨gb244, 1, none⟩ (.int .i64 t225)).setCell ⟨gb244, 2, none⟩ (.int .i64 t226)).setCell ⟨gb244, 3, none⟩ (.int .i64 t227)).setCell ⟨gb244, 4, none⟩ (.int .i64 t228)).setCell ⟨gb244, 5, none⟩ (.int .i64 t229)).setCell ⟨gb244, 6, none⟩ (.int .i64 t230)).setCell ⟨gb244, 7, none⟩ (.bool t231)).setCell ⟨gb244, 8, none⟩ (.int .i64 t232)).setCell ⟨gb244, 9, none⟩ (.int .i64 t233)).heap[gb244]? = some (.cells #[.int .i64 t224, .int .i64 t225, .int .i64 t226, .int .i64 t227, .int .i64 t228, .int .i64 t229, .int .i64 t230, .bool t231, .int .i64 t232, .int .i64 t233] 50 (0, 0))) := ⟨put10_self BK244.out _ _ _ _ _ _ _ _ _ _⟩
            have m3_ : Aside0 (((((((((((w47p0.setCell ⟨gb244, 0, none⟩ (.int .i64 t224)).setCell ⟨gb244, 1, none⟩ (.int .i64 t225)).setCell ⟨gb244, 2, none⟩ (.int .i64 t226)).setCell ⟨gb244, 3, none⟩ (.int .i64 t227)).setCell ⟨gb244, 4, none⟩ (.int .i64 t228)).setCell ⟨gb244, 5, none⟩ (.int .i64 t229)).setCell ⟨gb244, 6, none⟩ (.int .i64 t230)).setCell ⟨gb244, 7, none⟩ (.bool t231)).setCell ⟨gb244, 8, none⟩ (.int .i64 t232)).setCell ⟨gb244, 9, none⟩ (.int .i64 t233)).heap[gb245]? = some (.cells #[.int .i64 0, .int .i64 0, .int .i64 0, .int .i64 0, .int .i64 0, .int .i64 0, .int .i64 0, .bool false, .int .i64 0, .int .i64 0] 50 (0, 0))) := ⟨put10_far BK245.out NB245_244.out _ _ _ _ _ _ _ _ _ _⟩
            have m4_ : Aside0 (Below w.heap.size w ((((((((((w47p0.setCell ⟨gb244, 0, none⟩ (.int .i64 t224)).setCell ⟨gb244, 1, none⟩ (.int .i64 t225)).setCell ⟨gb244, 2, none⟩ (.int .i64 t226)).setCell ⟨gb244, 3, none⟩ (.int .i64 t227)).setCell ⟨gb244, 4, none⟩ (.int .i64 t228)).setCell ⟨gb244, 5, none⟩ (.int .i64 t229)).setCell ⟨gb244, 6, none⟩ (.int .i64 t230)).setCell ⟨gb244, 7, none⟩ (.bool t231)).setCell ⟨gb244, 8, none⟩ (.int .i64 t232)).setCell ⟨gb244, 9, none⟩ (.int .i64 t233))) := ⟨put10_below HB.out GE244.out _ _ _ _ _ _ _ _ _ _⟩
            clear BK235 BK243 BK244 BK245 HB hHeld
            generalize ((((((((((w47p0.setCell ⟨gb244, 0, none⟩ (.int .i64 t224)).setCell ⟨gb244, 1, none⟩ (.int .i64 t225)).setCell ⟨gb244, 2, none⟩ (.int .i64 t226)).setCell ⟨gb244, 3, none⟩ (.int .i64 t227)).setCell ⟨gb244, 4, none⟩ (.int .i64 t228)).setCell ⟨gb244, 5, none⟩ (.int .i64 t229)).setCell ⟨gb244, 6, none⟩ (.int .i64 t230)).setCell ⟨gb244, 7, none⟩ (.bool t231)).setCell ⟨gb244, 8, none⟩ (.int .i64 t232)).setCell ⟨gb244, 9, none⟩ (.int .i64 t233)) = w47p1 at m0_ m1_ m2_ m3_ m4_ ⊢
            have BK235 := m0_
            have BK243 := m1_
            have BK244 := m2_
            have BK245 := m3_
            have HB := m4_
            clear m0_ m1_ m2_ m3_ m4_
            refine hK.out _ _ ⟨(blk_cell BK235.out 0).trans rfl, (blk_cell BK235.out 1).trans rfl, (blk_cell BK235.out 2).trans rfl, (blk_cell BK235.out 3).trans rfl, (blk_cell BK235.out 4).trans rfl, (blk_cell BK235.out 5).trans rfl, (blk_cell BK235.out 6).trans rfl, (blk_cell BK235.out 7).trans rfl, (blk_cell BK235.out 8).trans rfl, (blk_cell BK235.out 9).trans rfl⟩ (fun hHeld => ?_)
            clear hK K
            refine one_ (i := 8) (N := none) #[true, true, true, true, true, true, true, true, true] rfl rfl (one_of HT_.out (by kernel_rfl)) (by decide) (fun K hK => ?_)
            have hs_0 : w47p1.cell? ⟨gb245, 0, none⟩ = some (.int .i64 0) := (blk_cell BK245.out 0).trans rfl
            have hf_0 := blk_frozen BK245.out 0
            have hs_1 : w47p1.cell? ⟨gb245, 1, none⟩ = some (.int .i64 0) := (blk_cell BK245.out 1).trans rfl
            have hf_1 := blk_frozen BK245.out 1
            have hs_2 : w47p1.cell? ⟨gb245, 2, none⟩ = some (.int .i64 0) := (blk_cell BK245.out 2).trans rfl
            have hf_2 := blk_frozen BK245.out 2
            have hs_3 : w47p1.cell? ⟨gb245, 3, none⟩ = some (.int .i64 0) := (blk_cell BK245.out 3).trans rfl
            have hf_3 := blk_frozen BK245.out 3
            have hs_4 : w47p1.cell? ⟨gb245, 4, none⟩ = some (.int .i64 0) := (blk_cell BK245.out 4).trans rfl
            have hf_4 := blk_frozen BK245.out 4
            have hs_5 : w47p1.cell? ⟨gb245, 5, none⟩ = some (.int .i64 0) := (blk_cell BK245.out 5).trans rfl
            have hf_5 := blk_frozen BK245.out 5
            have hs_6 : w47p1.cell? ⟨gb245, 6, none⟩ = some (.int .i64 0) := (blk_cell BK245.out 6).trans rfl
            have hf_6 := blk_frozen BK245.out 6
            have hs_7 : w47p1.cell? ⟨gb245, 7, none⟩ = some (.bool false) := (blk_cell BK245.out 7).trans rfl
            have hf_7 := blk_frozen BK245.out 7
            have hs_8 : w47p1.cell? ⟨gb245, 8, none⟩ = some (.int .i64 0) := (blk_cell BK245.out 8).trans rfl
            have hf_8 := blk_frozen BK245.out 8
            have hs_9 : w47p1.cell? ⟨gb245, 9, none⟩ = some (.int .i64 0) := (blk_cell BK245.out 9).trans rfl
            have hf_9 := blk_frozen BK245.out 9
            refine skip_ (w1 := ?_) (by rfl) rfl ?_ ?_
            rotate_left
            ·go_simp
             rfl
            clear hs_0 hf_0 hs_1 hf_1 hs_2 hf_2 hs_3 hf_3 hs_4 hf_4 hs_5 hf_5 hs_6 hf_6 hs_7 hf_7 hs_8 hf_8 hs_9 hf_9
            have m0_ : Aside0 (((((((((((w47p1.setCell ⟨gb245, 0, none⟩ (.int .i64 t224)).setCell ⟨gb245, 1, none⟩ (.int .i64 t225)).setCell ⟨gb245, 2, none⟩ (.int .i64 t226)).setCell ⟨gb245, 3, none⟩ (.int .i64 t227)).setCell ⟨gb245, 4, none⟩ (.int .i64 t228)).setCell ⟨gb245, 5, none⟩ (.int .i64 t229)).setCell ⟨gb245, 6, none⟩ (.int .i64 t230)).setCell ⟨gb245, 7, none⟩ (.bool t231)).setCell ⟨gb245, 8, none⟩ (.int .i64 t232)).setCell ⟨gb245, 9, none⟩ (.int .i64 t233)).heap[gb235]? = some (.cells #[.int .i64 t224, .int .i64 t225, .int .i64 t226, .int .i64 t227, .int .i64 t228, .int .i64 t229, .int .i64 t230, .bool t231, .int .i64 t232, .int .i64 t233] 50 (0, 0))) := ⟨put10_far BK235.out NB235_245.out _ _ _ _ _ _ _ _ _ _⟩
            have m1_ : Aside0 (((((((((((w47p1.setCell ⟨gb245, 0, none⟩ (.int .i64 t224)).setCell ⟨gb245, 1, none⟩ (.int .i64 t225)).setCell ⟨gb245, 2, none⟩ (.int .i64 t226)).setCell ⟨gb245, 3, none⟩ (.int .i64 t227)).setCell ⟨gb245, 4, none⟩ (.int .i64 t228)).setCell ⟨gb245, 5, none⟩ (.int .i64 t229)).setCell ⟨gb245, 6, none⟩ (.int .i64 t230)).setCell ⟨gb245, 7, none⟩ (.bool t231)).setCell ⟨gb245, 8, none⟩ (.int .i64 t232)).setCell ⟨gb245, 9, none⟩ (.int .i64 t233)).heap[gb243]? = some (.cells #[.int .i64 t224, .int .i64 t225, .int .i64 t226, .int .i64 t227, .int .i64 t228, .int .i64 t229, .int .i64 t230, .bool t231, .int .i64 t232, .int .i64 t233] 50 (0, 0))) := ⟨put10_far BK243.out NB243_245.out _ _ _ _ _ _ _ _ _ _⟩
            have m2_ : Aside0 (((((((((((w47p1.setCell ⟨gb245, 0, none⟩ (.int .i64 t224)).setCell ⟨gb245, 1, none⟩ (.int .i64 t225)).setCell ⟨gb245, 2, none⟩ (.int .i64 t226)).setCell ⟨gb245, 3, none⟩ (.int .i64 t227)).setCell ⟨gb245, 4, none⟩ (.int .i64 t228)).setCell ⟨gb245, 5, none⟩ (.int .i64 t229)).setCell ⟨gb245, 6, none⟩ (.int .i64 t230)).setCell ⟨gb245, 7, none⟩ (.bool t231)).setCell ⟨gb245, 8, none⟩ (.int .i64 t232)).setCell ⟨gb245, 9, none⟩ (.int .i64 t233)).heap[gb244]? = some (.cells #[.int .i64 t224, .int .i64 t225, .int .i64 t226, .int .i64 t227, .int .i64 t228, .int .i64 t229, .int .i64 t230, .bool t231, .int .i64 t232, .int .i64 t233] 50 (0, 0))) := ⟨put10_far BK244.out NB244_245.out _ _ _ _ _ _ _ _ _ _⟩
            have m3_ : Aside0 (((((((((((w47p1.setCell ⟨gb245, 0, none⟩ (.int .i64 t224)).setCell ⟨gb245, 1, none⟩ (.int .i64 t225)).setCell ⟨gb245, 2, none⟩ (.int .i64 t226)).setCell ⟨gb245, 3, none⟩ (.int .i64 t227)).setCell ⟨gb245, 4, none⟩ (.int .i64 t228)).setCell ⟨gb245, 5, none⟩ (.int .i64 t229)).setCell ⟨gb245, 6, none⟩ (.int .i64 t230)).setCell ⟨gb245, 7, none⟩ (.bool t231)).setCell ⟨gb245, 8, none⟩ (.int .i64 t232)).setCell ⟨gb245, 9, none⟩ (.int .i64 t233)).heap[gb245]? = some (.cells #[.int .i64 t224, .int .i64 t225, .int .i64 t226, .int .i64 t227, .int .i64 t228, .int .i64 t229, .int .i64 t230, .bool t231, .int .i64 t232, .int .i64 t233] 50 (0, 0))) := ⟨put10_self BK245.out _ _ _ _ _ _ _ _ _ _⟩
            have m4_ : Aside0 (Below w.heap.size w ((((((((((w47p1.setCell ⟨gb245, 0, none⟩ (.int .i64 t224)).setCell ⟨gb245, 1, none⟩ (.int .i64 t225)).setCell ⟨gb245, 2, none⟩ (.int .i64 t226)).setCell ⟨gb245, 3, none⟩ (.int .i64 t227)).setCell ⟨gb245, 4, none⟩ (.int .i64 t228)).setCell ⟨gb245, 5, none⟩ (.int .i64 t229)).setCell ⟨gb245, 6, none⟩ (.int .i64 t230)).setCell ⟨gb245, 7, none⟩ (.bool t231)).setCell ⟨gb245, 8, none⟩ (.int .i64 t232)).setCell ⟨gb245, 9, none⟩ (.int .i64 t233))) := ⟨put10_below HB.out GE245.out _ _ _ _ _ _ _ _ _ _⟩
            clear BK235 BK243 BK244 BK245 HB hHeld
            generalize ((((((((((w47p1.setCell ⟨gb245, 0, none⟩ (.int .i64 t224)).setCell ⟨gb245, 1, none⟩ (.int .i64 t225)).setCell ⟨gb245, 2, none⟩ (.int .i64 t226)).setCell ⟨gb245, 3, none⟩ (.int .i64 t227)).setCell ⟨gb245, 4, none⟩ (.int .i64 t228)).setCell ⟨gb245, 5, none⟩ (.int .i64 t229)).setCell ⟨gb245, 6, none⟩ (.int .i64 t230)).setCell ⟨gb245, 7, none⟩ (.bool t231)).setCell ⟨gb245, 8, none⟩ (.int .i64 t232)).setCell ⟨gb245, 9, none⟩ (.int .i64 t233)) = w47p2 at m0_ m1_ m2_ m3_ m4_ ⊢
            have BK235 := m0_
            have BK243 := m1_
            have BK244 := m2_
            have BK245 := m3_
            have HB := m4_
            clear m0_ m1_ m2_ m3_ m4_
            refine hK.out _ _ ⟨(blk_cell BK235.out 0).trans rfl, (blk_cell BK235.out 1).trans rfl, (blk_cell BK235.out 2).trans rfl, (blk_cell BK235.out 3).trans rfl, (blk_cell BK235.out 4).trans rfl, (blk_cell BK235.out 5).trans rfl, (blk_cell BK235.out 6).trans rfl, (blk_cell BK235.out 7).trans rfl, (blk_cell BK235.out 8).trans rfl, (blk_cell BK235.out 9).trans rfl⟩ (fun hHeld => ?_)
            clear hK K
            refine done_ (done_of HT_.out (by kernel_rfl)) ?_
            have hn_gb235_gb243 := NB235_243.out
            have hn_gb235_gb244 := NB235_244.out
            have hn_gb235_gb245 := NB235_245.out
            have hn_gb243_gb235 := NB243_235.out
            have hn_gb243_gb244 := NB243_244.out
            have hn_gb243_gb245 := NB243_245.out
            have hn_gb244_gb235 := NB244_235.out
            have hn_gb244_gb243 := NB244_243.out
            have hn_gb244_gb245 := NB244_245.out
            have hn_gb245_gb235 := NB245_235.out
            have hn_gb245_gb243 := NB245_243.out
            have hn_gb245_gb244 := NB245_244.out
            have hcz_gb235_0 : w47p2.cell? ⟨gb235, 0, none⟩ = some (.int .i64 t224) := (blk_cell BK235.out 0).trans rfl
            have hfz_gb235_0 := blk_frozen BK235.out 0
            have hcz_gb235_1 : w47p2.cell? ⟨gb235, 1, none⟩ = some (.int .i64 t225) := (blk_cell BK235.out 1).trans rfl
            have hfz_gb235_1 := blk_frozen BK235.out 1
            have hcz_gb235_2 : w47p2.cell? ⟨gb235, 2, none⟩ = some (.int .i64 t226) := (blk_cell BK235.out 2).trans rfl
            have hfz_gb235_2 := blk_frozen BK235.out 2
            have hcz_gb235_3 : w47p2.cell? ⟨gb235, 3, none⟩ = some (.int .i64 t227) := (blk_cell BK235.out 3).trans rfl
            have hfz_gb235_3 := blk_frozen BK235.out 3
            have hcz_gb235_4 : w47p2.cell? ⟨gb235, 4, none⟩ = some (.int .i64 t228) := (blk_cell BK235.out 4).trans rfl
            have hfz_gb235_4 := blk_frozen BK235.out 4
            have hcz_gb235_5 : w47p2.cell? ⟨gb235, 5, none⟩ = some (.int .i64 t229) := (blk_cell BK235.out 5).trans rfl
            have hfz_gb235_5 := blk_frozen BK235.out 5
            have hcz_gb235_6 : w47p2.cell? ⟨gb235, 6, none⟩ = some (.int .i64 t230) := (blk_cell BK235.out 6).trans rfl
            have hfz_gb235_6 := blk_frozen BK235.out 6
            have hcz_gb235_7 : w47p2.cell? ⟨gb235, 7, none⟩ = some (.bool t231) := (blk_cell BK235.out 7).trans rfl
            have hfz_gb235_7 := blk_frozen BK235.out 7
            have hcz_gb235_8 : w47p2.cell? ⟨gb235, 8, none⟩ = some (.int .i64 t232) := (blk_cell BK235.out 8).trans rfl
            have hfz_gb235_8 := blk_frozen BK235.out 8
            have hcz_gb235_9 : w47p2.cell? ⟨gb235, 9, none⟩ = some (.int .i64 t233) := (blk_cell BK235.out 9).trans rfl
            have hfz_gb235_9 := blk_frozen BK235.out 9
            have hcz_gb243_0 : w47p2.cell? ⟨gb243, 0, none⟩ = some (.int .i64 t224) := (blk_cell BK243.out 0).trans rfl
            have hfz_gb243_0 := blk_frozen BK243.out 0
            have hcz_gb243_1 : w47p2.cell? ⟨gb243, 1, none⟩ = some (.int .i64 t225) := (blk_cell BK243.out 1).trans rfl
            have hfz_gb243_1 := blk_frozen BK243.out 1
            have hcz_gb243_2 : w47p2.cell? ⟨gb243, 2, none⟩ = some (.int .i64 t226) := (blk_cell BK243.out 2).trans rfl
            have hfz_gb243_2 := blk_frozen BK243.out 2
            have hcz_gb243_3 : w47p2.cell? ⟨gb243, 3, none⟩ = some (.int .i64 t227) := (blk_cell BK243.out 3).trans rfl
            have hfz_gb243_3 := blk_frozen BK243.out 3
            have hcz_gb243_4 : w47p2.cell? ⟨gb243, 4, none⟩ = some (.int .i64 t228) := (blk_cell BK243.out 4).trans rfl
            have hfz_gb243_4 := blk_frozen BK243.out 4
            have hcz_gb243_5 : w47p2.cell? ⟨gb243, 5, none⟩ = some (.int .i64 t229) := (blk_cell BK243.out 5).trans rfl
            have hfz_gb243_5 := blk_frozen BK243.out 5
            have hcz_gb243_6 : w47p2.cell? ⟨gb243, 6, none⟩ = some (.int .i64 t230) := (blk_cell BK243.out 6).trans rfl
            have hfz_gb243_6 := blk_frozen BK243.out 6
            have hcz_gb243_7 : w47p2.cell? ⟨gb243, 7, none⟩ = some (.bool t231) := (blk_cell BK243.out 7).trans rfl
            have hfz_gb243_7 := blk_frozen BK243.out 7
            have hcz_gb243_8 : w47p2.cell? ⟨gb243, 8, none⟩ = some (.int .i64 t232) := (blk_cell BK243.out 8).trans rfl
            have hfz_gb243_8 := blk_frozen BK243.out 8
            have hcz_gb243_9 : w47p2.cell? ⟨gb243, 9, none⟩ = some (.int .i64 t233) := (blk_cell BK243.out 9).trans rfl
            have hfz_gb243_9 := blk_frozen BK243.out 9
            have hcz_gb244_0 : w47p2.cell? ⟨gb244, 0, none⟩ = some (.int .i64 t224) := (blk_cell BK244.out 0).trans rfl
            have hfz_gb244_0 := blk_frozen BK244.out 0
            have hcz_gb244_1 : w47p2.cell? ⟨gb244, 1, none⟩ = some (.int .i64 t225) := (blk_cell BK244.out 1).trans rfl
            have hfz_gb244_1 := blk_frozen BK244.out 1
            have hcz_gb244_2 : w47p2.cell? ⟨gb244, 2, none⟩ = some (.int .i64 t226) := (blk_cell BK244.out 2).trans rfl
            have hfz_gb244_2 := blk_frozen BK244.out 2
            have hcz_gb244_3 : w47p2.cell? ⟨gb244, 3, none⟩ = some (.int .i64 t227) := (blk_cell BK244.out 3).trans rfl
            have hfz_gb244_3 := blk_frozen BK244.out 3
            have hcz_gb244_4 : w47p2.cell? ⟨gb244, 4, none⟩ = some (.int .i64 t228) := (blk_cell BK244.out 4).trans rfl
            have hfz_gb244_4 := blk_frozen BK244.out 4
            have hcz_gb244_5 : w47p2.cell? ⟨gb244, 5, none⟩ = some (.int .i64 t229) := (blk_cell BK244.out 5).trans rfl
            have hfz_gb244_5 := blk_frozen BK244.out 5
            have hcz_gb244_6 : w47p2.cell? ⟨gb244, 6, none⟩ = some (.int .i64 t230) := (blk_cell BK244.out 6).trans rfl
            have hfz_gb244_6 := blk_frozen BK244.out 6
            have hcz_gb244_7 : w47p2.cell? ⟨gb244, 7, none⟩ = some (.bool t231) := (blk_cell BK244.out 7).trans rfl
            have hfz_gb244_7 := blk_frozen BK244.out 7
            have hcz_gb244_8 : w47p2.cell? ⟨gb244, 8, none⟩ = some (.int .i64 t232) := (blk_cell BK244.out 8).trans rfl
            have hfz_gb244_8 := blk_frozen BK244.out 8
            have hcz_gb244_9 : w47p2.cell? ⟨gb244, 9, none⟩ = some (.int .i64 t233) := (blk_cell BK244.out 9).trans rfl
            have hfz_gb244_9 := blk_frozen BK244.out 9
            have hcz_gb245_0 : w47p2.cell? ⟨gb245, 0, none⟩ = some (.int .i64 t224) := (blk_cell BK245.out 0).trans rfl
            have hfz_gb245_0 := blk_frozen BK245.out 0
            have hcz_gb245_1 : w47p2.cell? ⟨gb245, 1, none⟩ = some (.int .i64 t225) := (blk_cell BK245.out 1).trans rfl
            have hfz_gb245_1 := blk_frozen BK245.out 1
            have hcz_gb245_2 : w47p2.cell? ⟨gb245, 2, none⟩ = some (.int .i64 t226) := (blk_cell BK245.out 2).trans rfl
            have hfz_gb245_2 := blk_frozen BK245.out 2
            have hcz_gb245_3 : w47p2.cell? ⟨gb245, 3, none⟩ = some (.int .i64 t227) := (blk_cell BK245.out 3).trans rfl
            have hfz_gb245_3 := blk_frozen BK245.out 3
            have hcz_gb245_4 : w47p2.cell? ⟨gb245, 4, none⟩ = some (.int .i64 t228) := (blk_cell BK245.out 4).trans rfl
            have hfz_gb245_4 := blk_frozen BK245.out 4
            have hcz_gb245_5 : w47p2.cell? ⟨gb245, 5, none⟩ = some (.int .i64 t229) := (blk_cell BK245.out 5).trans rfl
            have hfz_gb245_5 := blk_frozen BK245.out 5
            have hcz_gb245_6 : w47p2.cell? ⟨gb245, 6, none⟩ = some (.int .i64 t230) := (blk_cell BK245.out 6).trans rfl
            have hfz_gb245_6 := blk_frozen BK245.out 6
            have hcz_gb245_7 : w47p2.cell? ⟨gb245, 7, none⟩ = some (.bool t231) := (blk_cell BK245.out 7).trans rfl
            have hfz_gb245_7 := blk_frozen BK245.out 7
            have hcz_gb245_8 : w47p2.cell? ⟨gb245, 8, none⟩ = some (.int .i64 t232) := (blk_cell BK245.out 8).trans rfl
            have hfz_gb245_8 := blk_frozen BK245.out 8
            have hcz_gb245_9 : w47p2.cell? ⟨gb245, 9, none⟩ = some (.int .i64 t233) := (blk_cell BK245.out 9).trans rfl
            have hfz_gb245_9 := blk_frozen BK245.out 9
            try go_wp2_with (first | ((with_reducible refine gate_callee (f := 36) rfl ?_); refine goesL_ (some 56) rfl rfl Try.func36 (by kernel_rfl) rfl #[.agg #[.int .i64 t224, .int .i64 t225, .int .i64 1, .int .i64 t227, .int .i64 0, .int .i64 t229, .int .i64 t230, .bool t231, .int .i64 t232, .int .i64 t233], .int .i64 t234] rfl (by (try simp only [List.map_toArray, List.map_cons, List.map_nil]); first | done | rfl | (simp only [List.length_drop, List.length_take]; rfl)) ?_; (with_reducible refine (impl_WinOf.calls kj6 t224 t225 1 t227 0 t229 t230 t231 t232 t233 t234 t246 _ A32.out).mono ?_); rintro e w88 ⟨v247, rfl, ho0, hb⟩; refine ⟨_, rfl, ?_⟩; have n0_ := Aside0.mk (Kd.R_lower ho0 (below_size (by repeat (first | (with_reducible first | exact HB.out | apply below_alloc | apply pw_below_drewN | apply below_drew1 | refine below_set ?_ GE235.out | refine below_set ?_ GE243.out | refine below_set ?_ GE244.out | refine below_set ?_ GE245.out) | exact HB.out)))); have n1_ := Aside0.mk (blk_below (g := gb235) (o := .cells #[.int .i64 t224, .int .i64 t225, .int .i64 t226, .int .i64 t227, .int .i64 t228, .int .i64 t229, .int .i64 t230, .bool t231, .int .i64 t232, .int .i64 t233] 50 (0, 0)) (by (with_reducible repeat (first | refine blk_drewN ?_ _ | refine blk_drew ?_ | refine blk_alloc ?_ _)); refine blk_far ?_ NB235_245.out _; (with_reducible repeat (first | refine blk_drewN ?_ _ | refine blk_drew ?_ | refine blk_alloc ?_ _)); refine blk_far ?_ NB235_245.out _; (with_reducible repeat (first | refine blk_drewN ?_ _ | refine blk_drew ?_ | refine blk_alloc ?_ _)); refine blk_far ?_ NB235_244.out _; (with_reducible repeat (first | refine blk_drewN ?_ _ | refine blk_drew ?_ | refine blk_alloc ?_ _)); refine blk_far ?_ NB235_244.out _; (with_reducible repeat (first | refine blk_drewN ?_ _ | refine blk_drew ?_ | refine blk_alloc ?_ _)); refine blk_far ?_ NB235_243.out _; (with_reducible repeat (first | refine blk_drewN ?_ _ | refine blk_drew ?_ | refine blk_alloc ?_ _)); refine blk_far ?_ NB235_243.out _; (with_reducible repeat (first | refine blk_drewN ?_ _ | refine blk_drew ?_ | refine blk_alloc ?_ _)); exact BK235.out) hb); have n2_ := Aside0.mk (blk_below (g := gb243) (o := .cells #[.int .i64 t224, .int .i64 t225, .int .i64 1, .int .i64 t227, .int .i64 0, .int .i64 t229, .int .i64 t230, .bool t231, .int .i64 t232, .int .i64 t233] 50 (0, 0)) (by (with_reducible repeat (first | refine blk_drewN ?_ _ | refine blk_drew ?_ | refine blk_alloc ?_ _)); refine blk_far ?_ NB243_245.out _; (with_reducible repeat (first | refine blk_drewN ?_ _ | refine blk_drew ?_ | refine blk_alloc ?_ _)); refine blk_far ?_ NB243_245.out _; (with_reducible repeat (first | refine blk_drewN ?_ _ | refine blk_drew ?_ | refine blk_alloc ?_ _)); refine blk_far ?_ NB243_244.out _; (with_reducible repeat (first | refine blk_drewN ?_ _ | refine blk_drew ?_ | refine blk_alloc ?_ _)); refine blk_far ?_ NB243_244.out _; (with_reducible repeat (first | refine blk_drewN ?_ _ | refine blk_drew ?_ | refine blk_alloc ?_ _)); refine blk_put (cs := #[.int .i64 t224, .int .i64 t225, .int .i64 1, .int .i64 t227, .int .i64 t228, .int .i64 t229, .int .i64 t230, .bool t231, .int .i64 t232, .int .i64 t233]) ?_ 4 _ rfl; (with_reducible repeat (first | refine blk_drewN ?_ _ | refine blk_drew ?_ | refine blk_alloc ?_ _)); refine blk_put (cs := #[.int .i64 t224, .int .i64 t225, .int .i64 t226, .int .i64 t227, .int .i64 t228, .int .i64 t229, .int .i64 t230, .bool t231, .int .i64 t232, .int .i64 t233]) ?_ 2 _ rfl; (with_reducible repeat (first | refine blk_drewN ?_ _ | refine blk_drew ?_ | refine blk_alloc ?_ _)); exact BK243.out) hb); have n3_ := Aside0.mk (blk_below (g := gb244) (o := .cells #[.int .i64 t224, .int .i64 t225, .int .i64 2, .int .i64 t227, .int .i64 t227, .int .i64 t229, .int .i64 t230, .bool t231, .int .i64 t232, .int .i64 t233] 50 (0, 0)) (by (with_reducible repeat (first | refine blk_drewN ?_ _ | refine blk_drew ?_ | refine blk_alloc ?_ _)); refine blk_far ?_ NB244_245.out _; (with_reducible repeat (first | refine blk_drewN ?_ _ | refine blk_drew ?_ | refine blk_alloc ?_ _)); refine blk_far ?_ NB244_245.out _; (with_reducible repeat (first | refine blk_drewN ?_ _ | refine blk_drew ?_ | refine blk_alloc ?_ _)); refine blk_put (cs := #[.int .i64 t224, .int .i64 t225, .int .i64 2, .int .i64 t227, .int .i64 t228, .int .i64 t229, .int .i64 t230, .bool t231, .int .i64 t232, .int .i64 t233]) ?_ 4 _ rfl; (with_reducible repeat (first | refine blk_drewN ?_ _ | refine blk_drew ?_ | refine blk_alloc ?_ _)); refine blk_put (cs := #[.int .i64 t224, .int .i64 t225, .int .i64 t226, .int .i64 t227, .int .i64 t228, .int .i64 t229, .int .i64 t230, .bool t231, .int .i64 t232, .int .i64 t233]) ?_ 2 _ rfl; (with_reducible repeat (first | refine blk_drewN ?_ _ | refine blk_drew ?_ | refine blk_alloc ?_ _)); refine blk_far ?_ NB244_243.out _; (with_reducible repeat (first | refine blk_drewN ?_ _ | refine blk_drew ?_ | refine blk_alloc ?_ _)); refine blk_far ?_ NB244_243.out _; (with_reducible repeat (first | refine blk_drewN ?_ _ | refine blk_drew ?_ | refine blk_alloc ?_ _)); exact BK244.out) hb); have n4_ := Aside0.mk (blk_below (g := gb245) (o := .cells #[.int .i64 t224, .int .i64 t225, .int .i64 3, .int .i64 t227, .int .i64 0, .int .i64 t229, .int .i64 t230, .bool t231, .int .i64 t232, .int .i64 t233] 50 (0, 0)) (by (with_reducible repeat (first | refine blk_drewN ?_ _ | refine blk_drew ?_ | refine blk_alloc ?_ _)); refine blk_put (cs := #[.int .i64 t224, .int .i64 t225, .int .i64 3, .int .i64 t227, .int .i64 t228, .int .i64 t229, .int .i64 t230, .bool t231, .int .i64 t232, .int .i64 t233]) ?_ 4 _ rfl; (with_reducible repeat (first | refine blk_drewN ?_ _ | refine blk_drew ?_ | refine blk_alloc ?_ _)); refine blk_put (cs := #[.int .i64 t224, .int .i64 t225, .int .i64 t226, .int .i64 t227, .int .i64 t228, .int .i64 t229, .int .i64 t230, .bool t231, .int .i64 t232, .int .i64 t233]) ?_ 2 _ rfl; (with_reducible repeat (first | refine blk_drewN ?_ _ | refine blk_drew ?_ | refine blk_alloc ?_ _)); refine blk_far ?_ NB245_244.out _; (with_reducible repeat (first | refine blk_drewN ?_ _ | refine blk_drew ?_ | refine blk_alloc ?_ _)); refine blk_far ?_ NB245_244.out _; (with_reducible repeat (first | refine blk_drewN ?_ _ | refine blk_drew ?_ | refine blk_alloc ?_ _)); refine blk_far ?_ NB245_243.out _; (with_reducible repeat (first | refine blk_drewN ?_ _ | refine blk_drew ?_ | refine blk_alloc ?_ _)); refine blk_far ?_ NB245_243.out _; (with_reducible repeat (first | refine blk_drewN ?_ _ | refine blk_drew ?_ | refine blk_alloc ?_ _)); exact BK245.out) hb); have n5_ := Aside0.mk (below_step (by repeat (first | (with_reducible first | exact HB.out | apply below_alloc | apply pw_below_drewN | apply below_drew1 | refine below_set ?_ GE235.out | refine below_set ?_ GE243.out | refine below_set ?_ GE244.out | refine below_set ?_ GE245.out) | exact HB.out)) hb); clear BK235; clear BK243; clear BK244; clear BK245; clear HB; have HO248 := n0_; have BK235 := n1_; have BK243 := n2_; have BK244 := n3_; have BK245 := n4_; have HB := n5_; clear n0_ n1_ n2_ n3_ n4_ n5_; (try clear hb); (try clear hb2); (try clear hk); (try clear hi); (try clear ho0); have hcz89_0 : w88.cell? ⟨gb244, 0, none⟩ = some (.int .i64 t224) := (blk_cell BK244.out 0).trans rfl; have hcz89_1 : w88.cell? ⟨gb244, 1, none⟩ = some (.int .i64 t225) := (blk_cell BK244.out 1).trans rfl; have hcz89_2 : w88.cell? ⟨gb244, 2, none⟩ = some (.int .i64 2) := (blk_cell BK244.out 2).trans rfl; have hcz89_3 : w88.cell? ⟨gb244, 3, none⟩ = some (.int .i64 t227) := (blk_cell BK244.out 3).trans rfl; have hcz89_4 : w88.cell? ⟨gb244, 4, none⟩ = some (.int .i64 t227) := (blk_cell BK244.out 4).trans rfl; have hcz89_5 : w88.cell? ⟨gb244, 5, none⟩ = some (.int .i64 t229) := (blk_cell BK244.out 5).trans rfl; have hcz89_6 : w88.cell? ⟨gb244, 6, none⟩ = some (.int .i64 t230) := (blk_cell BK244.out 6).trans rfl; have hcz89_7 : w88.cell? ⟨gb244, 7, none⟩ = some (.bool t231) := (blk_cell BK244.out 7).trans rfl; have hcz89_8 : w88.cell? ⟨gb244, 8, none⟩ = some (.int .i64 t232) := (blk_cell BK244.out 8).trans rfl; have hcz89_9 : w88.cell? ⟨gb244, 9, none⟩ = some (.int .i64 t233) := (blk_cell BK244.out 9).trans rfl; have hfz89_0 := blk_frozen BK244.out 0; have hfz89_1 := blk_frozen BK244.out 1; have hfz89_2 := blk_frozen BK244.out 2; have hfz89_3 := blk_frozen BK244.out 3; have hfz89_4 := blk_frozen BK244.out 4; have hfz89_5 := blk_frozen BK244.out 5; have hfz89_6 := blk_frozen BK244.out 6; have hfz89_7 := blk_frozen BK244.out 7; have hfz89_8 := blk_frozen BK244.out 8; have hfz89_9 := blk_frozen BK244.out 9) | ((with_reducible refine gate_callee (f := 36) rfl ?_); refine goesL_ (some 59) rfl rfl Try.func36 (by kernel_rfl) rfl #[.agg #[.int .i64 t224, .int .i64 t225, .int .i64 2, .int .i64 t227, .int .i64 t227, .int .i64 t229, .int .i64 t230, .bool t231, .int .i64 t232, .int .i64 t233], .int .i64 t234] rfl (by (try simp only [List.map_toArray, List.map_cons, List.map_nil]); first | done | rfl | (simp only [List.length_drop, List.length_take]; rfl)) ?_; (with_reducible refine (impl_WinOf.calls kj6 t224 t225 2 t227 t227 t229 t230 t231 t232 t233 t234 t249 _ A33.out).mono ?_); rintro e w90 ⟨v250, rfl, ho0, hb⟩; refine ⟨_, rfl, ?_⟩; have n0_ := Aside0.mk (Kd.R_elder' (by (with_reducible repeat (first | apply Kd.R_alloc | apply Kd.R_drewN | apply Kd.R_drew)); exact HO248.out) (Kd.R_base ho0) hb); have n1_ := Aside0.mk (Kd.R_lower (Kd.R_new' ho0 (Kd.R_lt (by (with_reducible repeat (first | apply Kd.R_alloc | apply Kd.R_drewN | apply Kd.R_drew)); exact HO248.out))) (below_size (by repeat (first | (with_reducible first | exact HB.out | apply below_alloc | apply pw_below_drewN | apply below_drew1 | refine below_set ?_ GE235.out | refine below_set ?_ GE243.out | refine below_set ?_ GE244.out | refine below_set ?_ GE245.out) | exact HB.out)))); have n2_ := Aside0.mk (blk_below (g := gb235) (o := .cells #[.int .i64 t224, .int .i64 t225, .int .i64 t226, .int .i64 t227, .int .i64 t228, .int .i64 t229, .int .i64 t230, .bool t231, .int .i64 t232, .int .i64 t233] 50 (0, 0)) (by (with_reducible repeat (first | refine blk_drewN ?_ _ | refine blk_drew ?_ | refine blk_alloc ?_ _)); exact BK235.out) hb); have n3_ := Aside0.mk (blk_below (g := gb243) (o := .cells #[.int .i64 t224, .int .i64 t225, .int .i64 1, .int .i64 t227, .int .i64 0, .int .i64 t229, .int .i64 t230, .bool t231, .int .i64 t232, .int .i64 t233] 50 (0, 0)) (by (with_reducible repeat (first | refine blk_drewN ?_ _ | refine blk_drew ?_ | refine blk_alloc ?_ _)); exact BK243.out) hb); have n4_ := Aside0.mk (blk_below (g := gb244) (o := .cells #[.int .i64 t224, .int .i64 t225, .int .i64 2, .int .i64 t227, .int .i64 t227, .int .i64 t229, .int .i64 t230, .bool t231, .int .i64 t232, .int .i64 t233] 50 (0, 0)) (by (with_reducible repeat (first | refine blk_drewN ?_ _ | refine blk_drew ?_ | refine blk_alloc ?_ _)); exact BK244.out) hb); have n5_ := Aside0.mk (blk_below (g := gb245) (o := .cells #[.int .i64 t224, .int .i64 t225, .int .i64 3, .int .i64 t227, .int .i64 0, .int .i64 t229, .int .i64 t230, .bool t231, .int .i64 t232, .int .i64 t233] 50 (0, 0)) (by (with_reducible repeat (first | refine blk_drewN ?_ _ | refine blk_drew ?_ | refine blk_alloc ?_ _)); exact BK245.out) hb); have n6_ := Aside0.mk (below_step (by repeat (first | (with_reducible first | exact HB.out | apply below_alloc | apply pw_below_drewN | apply below_drew1 | refine below_set ?_ GE235.out | refine below_set ?_ GE243.out | refine below_set ?_ GE244.out | refine below_set ?_ GE245.out) | exact HB.out)) hb); clear HO248; clear BK235; clear BK243; clear BK244; clear BK245; clear HB; have HO248 := n0_; have HO251 := n1_; have BK235 := n2_; have BK243 := n3_; have BK244 := n4_; have BK245 := n5_; have HB := n6_; clear n0_ n1_ n2_ n3_ n4_ n5_ n6_; (try clear hb); (try clear hb2); (try clear hk); (try clear hi); (try clear ho0); have hcz91_0 : w90.cell? ⟨gb245, 0, none⟩ = some (.int .i64 t224) := (blk_cell BK245.out 0).trans rfl; have hcz91_1 : w90.cell? ⟨gb245, 1, none⟩ = some (.int .i64 t225) := (blk_cell BK245.out 1).trans rfl; have hcz91_2 : w90.cell? ⟨gb245, 2, none⟩ = some (.int .i64 3) := (blk_cell BK245.out 2).trans rfl; have hcz91_3 : w90.cell? ⟨gb245, 3, none⟩ = some (.int .i64 t227) := (blk_cell BK245.out 3).trans rfl; have hcz91_4 : w90.cell? ⟨gb245, 4, none⟩ = some (.int .i64 0) := (blk_cell BK245.out 4).trans rfl; have hcz91_5 : w90.cell? ⟨gb245, 5, none⟩ = some (.int .i64 t229) := (blk_cell BK245.out 5).trans rfl; have hcz91_6 : w90.cell? ⟨gb245, 6, none⟩ = some (.int .i64 t230) := (blk_cell BK245.out 6).trans rfl; have hcz91_7 : w90.cell? ⟨gb245, 7, none⟩ = some (.bool t231) := (blk_cell BK245.out 7).trans rfl; have hcz91_8 : w90.cell? ⟨gb245, 8, none⟩ = some (.int .i64 t232) := (blk_cell BK245.out 8).trans rfl; have hcz91_9 : w90.cell? ⟨gb245, 9, none⟩ = some (.int .i64 t233) := (blk_cell BK245.out 9).trans rfl; have hfz91_0 := blk_frozen BK245.out 0; have hfz91_1 := blk_frozen BK245.out 1; have hfz91_2 := blk_frozen BK245.out 2; have hfz91_3 := blk_frozen BK245.out 3; have hfz91_4 := blk_frozen BK245.out 4; have hfz91_5 := blk_frozen BK245.out 5; have hfz91_6 := blk_frozen BK245.out 6; have hfz91_7 := blk_frozen BK245.out 7; have hfz91_8 := blk_frozen BK245.out 8; have hfz91_9 := blk_frozen BK245.out 9) | ((with_reducible refine gate_callee (f := 36) rfl ?_); refine goesL_ (some 62) rfl rfl Try.func36 (by kernel_rfl) rfl #[.agg #[.int .i64 t224, .int .i64 t225, .int .i64 3, .int .i64 t227, .int .i64 0, .int .i64 t229, .int .i64 t230, .bool t231, .int .i64 t232, .int .i64 t233], .int .i64 t234] rfl (by (try simp only [List.map_toArray, List.map_cons, List.map_nil]); first | done | rfl | (simp only [List.length_drop, List.length_take]; rfl)) ?_; (with_reducible refine (impl_WinOf.calls kj6 t224 t225 3 t227 0 t229 t230 t231 t232 t233 t234 t252 _ A34.out).mono ?_); rintro e w92 ⟨v253, rfl, ho0, hb⟩; refine ⟨_, rfl, ?_⟩; have n0_ := Aside0.mk (Kd.R_elder' (by (with_reducible repeat (first | apply Kd.R_alloc | apply Kd.R_drewN | apply Kd.R_drew)); exact HO248.out) (Kd.R_base ho0) hb); have n1_ := Aside0.mk (Kd.R_elder' (by (with_reducible repeat (first | apply Kd.R_alloc | apply Kd.R_drewN | apply Kd.R_drew)); exact HO251.out) (Kd.R_base ho0) hb); have n2_ := Aside0.mk (Kd.R_lower (Kd.R_new' (Kd.R_new' ho0 (Kd.R_lt (by (with_reducible repeat (first | apply Kd.R_alloc | apply Kd.R_drewN | apply Kd.R_drew)); exact HO248.out))) (Kd.R_lt (by (with_reducible repeat (first | apply Kd.R_alloc | apply Kd.R_drewN | apply Kd.R_drew)); exact HO251.out))) (below_size (by repeat (first | (with_reducible first | exact HB.out | apply below_alloc | apply pw_below_drewN | apply below_drew1 | refine below_set ?_ GE235.out | refine below_set ?_ GE243.out | refine below_set ?_ GE244.out | refine below_set ?_ GE245.out) | exact HB.out)))); have n3_ := Aside0.mk (blk_below (g := gb235) (o := .cells #[.int .i64 t224, .int .i64 t225, .int .i64 t226, .int .i64 t227, .int .i64 t228, .int .i64 t229, .int .i64 t230, .bool t231, .int .i64 t232, .int .i64 t233] 50 (0, 0)) (by (with_reducible repeat (first | refine blk_drewN ?_ _ | refine blk_drew ?_ | refine blk_alloc ?_ _)); exact BK235.out) hb); have n4_ := Aside0.mk (blk_below (g := gb243) (o := .cells #[.int .i64 t224, .int .i64 t225, .int .i64 1, .int .i64 t227, .int .i64 0, .int .i64 t229, .int .i64 t230, .bool t231, .int .i64 t232, .int .i64 t233] 50 (0, 0)) (by (with_reducible repeat (first | refine blk_drewN ?_ _ | refine blk_drew ?_ | refine blk_alloc ?_ _)); exact BK243.out) hb); have n5_ := Aside0.mk (blk_below (g := gb244) (o := .cells #[.int .i64 t224, .int .i64 t225, .int .i64 2, .int .i64 t227, .int .i64 t227, .int .i64 t229, .int .i64 t230, .bool t231, .int .i64 t232, .int .i64 t233] 50 (0, 0)) (by (with_reducible repeat (first | refine blk_drewN ?_ _ | refine blk_drew ?_ | refine blk_alloc ?_ _)); exact BK244.out) hb); have n6_ := Aside0.mk (blk_below (g := gb245) (o := .cells #[.int .i64 t224, .int .i64 t225, .int .i64 3, .int .i64 t227, .int .i64 0, .int .i64 t229, .int .i64 t230, .bool t231, .int .i64 t232, .int .i64 t233] 50 (0, 0)) (by (with_reducible repeat (first | refine blk_drewN ?_ _ | refine blk_drew ?_ | refine blk_alloc ?_ _)); exact BK245.out) hb); have n7_ := Aside0.mk (below_step (by repeat (first | (with_reducible first | exact HB.out | apply below_alloc | apply pw_below_drewN | apply below_drew1 | refine below_set ?_ GE235.out | refine below_set ?_ GE243.out | refine below_set ?_ GE244.out | refine below_set ?_ GE245.out) | exact HB.out)) hb); clear HO248; clear HO251; clear BK235; clear BK243; clear BK244; clear BK245; clear HB; have HO248 := n0_; have HO251 := n1_; have HO254 := n2_; have BK235 := n3_; have BK243 := n4_; have BK244 := n5_; have BK245 := n6_; have HB := n7_; clear n0_ n1_ n2_ n3_ n4_ n5_ n6_ n7_; (try clear hb); (try clear hb2); (try clear hk); (try clear hi); (try clear ho0)))
            have n0_ := Aside0.mk (Kd.R_drew HO248.out)
            have n1_ := Aside0.mk (Kd.R_drew HO251.out)
            have n2_ := Aside0.mk (Kd.R_drew HO254.out)
            have n3_ := Aside0.mk (blk_drew BK235.out)
            have n4_ := Aside0.mk (blk_drew BK243.out)
            have n5_ := Aside0.mk (blk_drew BK244.out)
            have n6_ := Aside0.mk (blk_drew BK245.out)
            have n7_ := Aside0.mk (below_drew1 HB.out)
            clear HO248
            clear HO251
            clear HO254
            clear BK235
            clear BK243
            clear BK244
            clear BK245
            clear HB
            have HO248 := n0_
            have HO251 := n1_
            have HO254 := n2_
            have BK235 := n3_
            have BK243 := n4_
            have BK244 := n5_
            have BK245 := n6_
            have HB := n7_
            clear n0_ n1_ n2_ n3_ n4_ n5_ n6_ n7_
            obtain ⟨Ao94, co94, eo94⟩ := Kd.R_slice HO248.out
            (first | subst eo94 | (injection eo94 with f1_ f2_ f3_; have f4_ := f1_.symm; have f5_ := f3_.symm; clear f1_ f2_ f3_; subst f4_; subst f5_))
            obtain ⟨Ao95, co95, eo95⟩ := Kd.R_slice HO251.out
            (first | subst eo95 | (injection eo95 with f1_ f2_ f3_; have f4_ := f1_.symm; have f5_ := f3_.symm; clear f1_ f2_ f3_; subst f4_; subst f5_))
            have p256 : 0 ≤ (0 : Int) := (by omega)
            have q256 : 0 < (t246.length : Int) := of_decide_eq_true (by first | (with_reducible assumption) | assumption)
            obtain ⟨ad256, e256, hx256_0, hx256_1⟩ := at_T34 (Kd.R_reads' HO248.out).2.2 0 p256 q256
            cases e256
            have qi256 : (0 < t246.length) = True := eq_true (by omega)
            (try rw [show ((0 : Int)).toNat = 0 from rfl] at hx256_0)
            (try rw [show 0 * 2 = 0 from rfl] at hx256_0)
            (try rw [Addr.add_zero'] at hx256_0)
            (try rw [show ((0 : Int)).toNat = 0 from rfl] at hx256_1)
            (try rw [show 0 * 2 = 0 from rfl] at hx256_1)
            (try rw [Addr.add_zero'] at hx256_1)
            replace p256 := eq_true p256
            replace q256 := eq_true q256
            have p257 : 0 ≤ (0 : Int) := (by omega)
            have q257 : 0 < (t252.length : Int) := of_decide_eq_true (by first | (with_reducible assumption) | assumption)
            obtain ⟨Ao99_, co99_, eo99_⟩ := Kd.R_slice HO254.out
            (first | subst eo99_ | (injection eo99_ with f1_ f2_ f3_; have f4_ := f1_.symm; have f5_ := f3_.symm; clear f1_ f2_ f3_; subst f4_; subst f5_))
            obtain ⟨ad257, e257, hx257_0, hx257_1⟩ := at_T34 (Kd.R_reads' HO254.out).2.2 0 p257 q257
            cases e257
            have qi257 : (0 < t252.length) = True := eq_true (by omega)
            (try rw [show ((0 : Int)).toNat = 0 from rfl] at hx257_0)
            (try rw [show 0 * 2 = 0 from rfl] at hx257_0)
            (try rw [Addr.add_zero'] at hx257_0)
            (try rw [show ((0 : Int)).toNat = 0 from rfl] at hx257_1)
            (try rw [show 0 * 2 = 0 from rfl] at hx257_1)
            (try rw [Addr.add_zero'] at hx257_1)
            replace p257 := eq_true p257
            replace q257 := eq_true q257
            have p259 : 0 ≤ (0 : Int) := (by omega)
            have q259 : 0 < (t252.length : Int) := of_decide_eq_true (by first | (with_reducible assumption) | assumption)
            obtain ⟨ad259, e259, hx259_0, hx259_1⟩ := at_T34 (Kd.R_reads' HO254.out).2.2 0 p259 q259
            obtain rfl : ad257 = ad259 := (by injection e259)
            have qi259 : (0 < t252.length) = True := eq_true (by omega)
            (try rw [show ((0 : Int)).toNat = 0 from rfl] at hx259_0)
            (try rw [show 0 * 2 = 0 from rfl] at hx259_0)
            (try rw [Addr.add_zero'] at hx259_0)
            (try rw [show ((0 : Int)).toNat = 0 from rfl] at hx259_1)
            (try rw [show 0 * 2 = 0 from rfl] at hx259_1)
            (try rw [Addr.add_zero'] at hx259_1)
            replace p259 := eq_true p259
            replace q259 := eq_true q259
            refine start_ (n := 31) (S := fun w' => w'.cell? ad256 = some (.int .i64 ((rd_T34 t246 0).f0)) ∧ w'.cell? ⟨ad256.block, ad256.off + 1, none⟩ = some (.int .i64 ((rd_T34 t246 0).f1)) ∧ w'.cell? ad257 = some (.int .i64 ((rd_T34 t252 0).f0)) ∧ w'.cell? ⟨ad257.block, ad257.off + 1, none⟩ = some (.int .i64 ((rd_T34 t252 0).f1)) ∧ w'.cell? ad257 = some (.int .i64 ((rd_T34 t252 0).f0)) ∧ w'.cell? ⟨ad257.block, ad257.off + 1, none⟩ = some (.int .i64 ((rd_T34 t252 0).f1))) (ds := []) #[false, false, false, false, false, false, false, false, false, false, false, false, false, false, false, false, false, false, false, false, false, false, false, false, false, false, false, false, false, false, false] (by kernel_rfl) rfl rfl ⟨hx256_0, hx256_1, hx257_0, hx257_1, hx259_0, hx259_1⟩ (fun hHeld => ?_); refine with_tabW laws_FnWinStep.tab18 laws_FnWinStep.bits18 (fun HT_ HW_ => ?_)
            generalize w92.drew = w93 at HO248 HO251 HO254 BK235 BK243 BK244 BK245 HB hx256_0 hx256_1 hx257_0 hx257_1 hx259_0 hx259_1 hHeld ⊢
            refine pure_ (i := 0) (N := some 63) (v := ?_) (a' := ?_) #[true, false, false, false, false, false, false, false, false, false, false, false, false, false, false, false, false, false, false, false, false, false, false, false, false, false, false, false, false, false, false] rfl rfl (any_of HT_.out (by kernel_rfl)) (fun _ _ _ h => h) (Or.inl ⟨by rfl, ?_⟩) ?_ ?_
            rotate_left
            ·intro w'
             go_simp
             with_reducible rfl
            rotate_left
            ·simp only [Act.put, List.setIfInBounds_toArray, List.set_cons_zero, List.set_cons_succ, i64_w, i32_w]
             rfl
            refine pure_ (i := 1) (N := some 64) (v := ?_) (a' := ?_) #[true, true, false, false, false, false, false, false, false, false, false, false, false, false, false, false, false, false, false, false, false, false, false, false, false, false, false, false, false, false, false] rfl rfl (any_of HT_.out (by kernel_rfl)) (fun _ _ _ h => h) (Or.inl ⟨by rfl, ?_⟩) ?_ ?_
            rotate_left
            ·intro w'
             go_simp
             with_reducible rfl
            rotate_left
            ·simp only [Act.put, List.setIfInBounds_toArray, List.set_cons_zero, List.set_cons_succ, i64_w, i32_w]
             rfl
            refine pure_ (i := 2) (N := some 65) (v := ?_) (a' := ?_) #[true, true, true, false, false, false, false, false, false, false, false, false, false, false, false, false, false, false, false, false, false, false, false, false, false, false, false, false, false, false, false] rfl rfl (any_of HT_.out (by kernel_rfl)) (fun _ _ _ h => h) (Or.inl ⟨by rfl, ?_⟩) ?_ ?_
            rotate_left
            ·intro w'
             go_simp
             with_reducible rfl
            rotate_left
            ·simp only [Act.put, List.setIfInBounds_toArray, List.set_cons_zero, List.set_cons_succ, i64_w, i32_w]
             rfl
            refine pure_ (i := 3) (N := some 66) (v := ?_) (a' := ?_) #[true, true, true, true, false, false, false, false, false, false, false, false, false, false, false, false, false, false, false, false, false, false, false, false, false, false, false, false, false, false, false] rfl rfl (any_of HT_.out (by kernel_rfl)) (fun _ _ _ h => h) (Or.inl ⟨by rfl, ?_⟩) ?_ ?_
            rotate_left
            ·intro w'
             go_simp
             with_reducible rfl
            rotate_left
            ·simp only [Act.put, List.setIfInBounds_toArray, List.set_cons_zero, List.set_cons_succ, i64_w, i32_w]
             rfl
            refine pure_ (i := 4) (N := some 67) (v := ?_) (a' := ?_) #[true, true, true, true, true, false, false, false, false, false, false, false, false, false, false, false, false, false, false, false, false, false, false, false, false, false, false, false, false, false, false] rfl rfl (any_of HT_.out (by kernel_rfl)) (fun _ _ _ h => h) (Or.inl ⟨by rfl, ?_⟩) ?_ ?_
            rotate_left
            ·intro w'
             go_simp
             with_reducible rfl
            rotate_left
            ·simp only [Act.put, List.setIfInBounds_toArray, List.set_cons_zero, List.set_cons_succ, i64_w, i32_w]
             rfl
            refine pure_ (i := 5) (N := some 68) (v := ?_) (a' := ?_) #[true, true, true, true, true, true, false, false, false, false, false, false, false, false, false, false, false, false, false, false, false, false, false, false, false, false, false, false, false, false, false] rfl rfl (any_of HT_.out (by kernel_rfl)) (fun _ _ _ h => h) (Or.inl ⟨by rfl, ?_⟩) ?_ ?_
            rotate_left
            ·intro w'
             go_simp
             with_reducible rfl
            rotate_left
            ·simp only [Act.put, List.setIfInBounds_toArray, List.set_cons_zero, List.set_cons_succ, i64_w, i32_w]
             rfl
            refine one_ (i := 6) (N := some 69) #[true, true, true, true, true, true, true, false, false, false, false, false, false, false, false, false, false, false, false, false, false, false, false, false, false, false, false, false, false, false, false] rfl rfl (one_of HT_.out (by kernel_rfl)) (by decide) (fun K hK => ?_)
            refine goes_ Try.func38 (by kernel_rfl) rfl #[.slice (some ad256) t246.length co94, .slice Ao95 t249.length co95] (by rfl) rfl rfl (by (try simp only [List.map_toArray, List.map_cons, List.map_nil]); first | done | rfl | (simp only [List.length_drop, List.length_take]; rfl)) ?_
            with_reducible refine (laws_frWins.calls kj6 _ _ t246 _ _ t249 true _ ?side1 ?side2 ?side3 ?side4 A36.out).mono ?_
            (case side1 => repeat (first | exact (Kd.R_reads' HO248.out).2.2 | (with_reducible refine Kd.C_alloc ?_ _) | (with_reducible refine Kd.C_drewN ?_ _) | (with_reducible refine Kd.C_drew ?_)))
            (case side2 => exact (Kd.R_reads' HO248.out).2.1)
            (case side3 => repeat (first | exact (Kd.R_reads' HO251.out).2.2 | (with_reducible refine Kd.C_alloc ?_ _) | (with_reducible refine Kd.C_drewN ?_ _) | (with_reducible refine Kd.C_drew ?_)))
            (case side4 => exact (Kd.R_reads' HO251.out).2.1)
            rintro e w' ⟨rfl, ⟨nd, rfl⟩⟩
            refine ⟨_, rfl, ?_⟩
            obtain ⟨Ao96, co96, eo96⟩ := Kd.R_slice HO254.out
            (first | subst eo96 | (injection eo96 with f1_ f2_ f3_; have f4_ := f1_.symm; have f5_ := f3_.symm; clear f1_ f2_ f3_; subst f4_; subst f5_))
            refine hK.out _ _ ⟨hHeld.1, hHeld.2.1, hHeld.2.2.1, hHeld.2.2.2.1, hHeld.2.2.2.2.1, hHeld.2.2.2.2.2⟩ (fun hHeld => ?_)
            clear hK K
            refine norm_ (a' := ?_) ?_ ?_
            rotate_left
            ·show Act.put _ (some 69) _ = _
             simp only [Act.put, List.setIfInBounds_toArray, List.set_cons_zero, List.set_cons_succ, i64_w, i32_w]
             rfl
            refine pure_ (i := 7) (N := some 70) (v := ?_) (a' := ?_) #[true, true, true, true, true, true, true, true, false, false, false, false, false, false, false, false, false, false, false, false, false, false, false, false, false, false, false, false, false, false, false] rfl rfl (any_of HT_.out (by kernel_rfl)) (fun _ _ _ h => h) (Or.inl ⟨by rfl, ?_⟩) ?_ ?_
            rotate_left
            ·intro w'
             go_simp
             with_reducible rfl
            rotate_left
            ·simp only [Act.put, List.setIfInBounds_toArray, List.set_cons_zero, List.set_cons_succ, i64_w, i32_w]
             rfl
            refine pure_ (i := 8) (N := some 71) (v := ?_) (a' := ?_) #[true, true, true, true, true, true, true, true, true, false, false, false, false, false, false, false, false, false, false, false, false, false, false, false, false, false, false, false, false, false, false] rfl rfl (any_of HT_.out (by kernel_rfl)) (fun _ _ _ h => h) (Or.inl ⟨by rfl, ?_⟩) ?_ ?_
            rotate_left
            ·intro w'
             go_simp
             with_reducible rfl
            rotate_left
            ·simp only [Act.put, List.setIfInBounds_toArray, List.set_cons_zero, List.set_cons_succ, i64_w, i32_w]
             rfl
            refine pure_ (i := 9) (N := some 72) (v := ?_) (a' := ?_) #[true, true, true, true, true, true, true, true, true, true, false, false, false, false, false, false, false, false, false, false, false, false, false, false, false, false, false, false, false, false, false] rfl rfl (any_of HT_.out (by kernel_rfl)) (fun _ _ _ h => h) (Or.inl ⟨by rfl, ?_⟩) ?_ ?_
            rotate_left
            ·intro w'
             go_simp
             with_reducible rfl
            rotate_left
            ·simp only [Act.put, List.setIfInBounds_toArray, List.set_cons_zero, List.set_cons_succ, i64_w, i32_w]
             rfl
            refine pure_ (i := 10) (N := some 73) (v := ?_) (a' := ?_) #[true, true, true, true, true, true, true, true, true, true, true, false, false, false, false, false, false, false, false, false, false, false, false, false, false, false, false, false, false, false, false] rfl rfl (any_of HT_.out (by kernel_rfl)) (fun _ _ _ h => h) (Or.inl ⟨by rfl, ?_⟩) ?_ ?_
            rotate_left
            ·intro w'
             go_simp
             with_reducible rfl
            rotate_left
            ·simp only [Act.put, List.setIfInBounds_toArray, List.set_cons_zero, List.set_cons_succ, i64_w, i32_w]
             rfl
            refine pure_ (i := 11) (N := some 74) (v := ?_) (a' := ?_) #[true, true, true, true, true, true, true, true, true, true, true, true, false, false, false, false, false, false, false, false, false, false, false, false, false, false, false, false, false, false, false] rfl rfl (any_of HT_.out (by kernel_rfl)) (fun _ _ _ h => h) (Or.inl ⟨by rfl, ?_⟩) ?_ ?_
            rotate_left
            ·intro w'
             go_simp
             with_reducible rfl
            rotate_left
            ·simp only [Act.put, List.setIfInBounds_toArray, List.set_cons_zero, List.set_cons_succ, i64_w, i32_w]
             rfl
            refine pure_ (i := 12) (N := some 75) (v := ?_) (a' := ?_) #[true, true, true, true, true, true, true, true, true, true, true, true, true, false, false, false, false, false, false, false, false, false, false, false, false, false, false, false, false, false, false] rfl rfl (any_of HT_.out (by kernel_rfl)) (fun _ _ _ h => h) (Or.inl ⟨by rfl, ?_⟩) ?_ ?_
            rotate_left
            ·intro w'
             go_simp
             with_reducible rfl
            rotate_left
            ·simp only [Act.put, List.setIfInBounds_toArray, List.set_cons_zero, List.set_cons_succ, i64_w, i32_w]
             rfl
            refine pure_ (i := 13) (N := some 76) (v := ?_) (a' := ?_) #[true, true, true, true, true, true, true, true, true, true, true, true, true, true, false, false, false, false, false, false, false, false, false, false, false, false, false, false, false, false, false] rfl rfl (any_of HT_.out (by kernel_rfl)) (fun _ _ _ h => h) (Or.inl ⟨by rfl, ?_⟩) ?_ ?_
            rotate_left
            ·intro w'
             go_simp
             with_reducible rfl
            rotate_left
            ·simp only [Act.put, List.setIfInBounds_toArray, List.set_cons_zero, List.set_cons_succ, i64_w, i32_w]
             rfl
            refine pure_ (i := 14) (N := some 77) (v := ?_) (a' := ?_) #[true, true, true, true, true, true, true, true, true, true, true, true, true, true, true, false, false, false, false, false, false, false, false, false, false, false, false, false, false, false, false] rfl rfl (any_of HT_.out (by kernel_rfl)) (fun _ _ _ h => h) (Or.inl ⟨by rfl, ?_⟩) ?_ ?_
            rotate_left
            ·intro w'
             go_simp
             with_reducible rfl
            rotate_left
            ·simp only [Act.put, List.setIfInBounds_toArray, List.set_cons_zero, List.set_cons_succ, i64_w, i32_w]
             rfl
            refine pure_ (i := 15) (N := some 78) (v := ?_) (a' := ?_) #[true, true, true, true, true, true, true, true, true, true, true, true, true, true, true, true, false, false, false, false, false, false, false, false, false, false, false, false, false, false, false] rfl rfl (any_of HT_.out (by kernel_rfl)) (fun _ _ _ h => h) (Or.inl ⟨by rfl, ?_⟩) ?_ ?_
            rotate_left
            ·intro w'
             go_simp
             with_reducible rfl
            rotate_left
            ·simp only [Act.put, List.setIfInBounds_toArray, List.set_cons_zero, List.set_cons_succ, i64_w, i32_w]
             rfl
            refine pure_ (i := 17) (N := some 80) (v := ?_) (a' := ?_) #[true, true, true, true, true, true, true, true, true, true, true, true, true, true, true, true, false, true, false, false, false, false, false, false, false, false, false, false, false, false, false] rfl rfl (any_of HT_.out (by kernel_rfl)) (fun _ _ _ h => h) (Or.inl ⟨by rfl, ?_⟩) ?_ ?_
            rotate_left
            ·intro w'
             go_simp
             with_reducible rfl
            rotate_left
            ·simp only [Act.put, List.setIfInBounds_toArray, List.set_cons_zero, List.set_cons_succ, i64_w, i32_w]
             rfl
            refine pure_ (i := 18) (N := some 81) (v := ?_) (a' := ?_) #[true, true, true, true, true, true, true, true, true, true, true, true, true, true, true, true, false, true, true, false, false, false, false, false, false, false, false, false, false, false, false] rfl rfl (any_of HT_.out (by kernel_rfl)) (fun _ _ _ h => h) (Or.inl ⟨by rfl, ?_⟩) ?_ ?_
            rotate_left
            ·intro w'
             go_simp
             with_reducible rfl
            rotate_left
            ·simp only [Act.put, List.setIfInBounds_toArray, List.set_cons_zero, List.set_cons_succ, i64_w, i32_w]
             rfl
            refine take_ (i := 16) (N := some 79) (v := ?_) (a' := ?_) #[true, true, true, true, true, true, true, true, true, true, true, true, true, true, true, true, true, true, true, false, false, false, false, false, false, false, false, false, false, false, false] rfl rfl (take_ofW HT_.out HW_.out (by kernel_rfl)) (fun _ _ _ h => h) (Or.inl ⟨by rfl, ?_⟩) hHeld ?_ ?_
            rotate_left
            ·rintro w' ⟨s0, s1, s2, s3, s4, s5⟩
             go_simp
             with_reducible rfl
            rotate_left
            ·simp only [Act.put, List.setIfInBounds_toArray, List.set_cons_zero, List.set_cons_succ, i64_w, i32_w]
             rfl
            refine take_ (i := 19) (N := some 82) (v := ?_) (a' := ?_) #[true, true, true, true, true, true, true, true, true, true, true, true, true, true, true, true, true, true, true, true, false, false, false, false, false, false, false, false, false, false, false] rfl rfl (take_ofW HT_.out HW_.out (by kernel_rfl)) (fun _ _ _ h => h) (Or.inl ⟨by rfl, ?_⟩) hHeld ?_ ?_
            rotate_left
            ·rintro w' ⟨s0, s1, s2, s3, s4, s5⟩
             go_simp
             with_reducible rfl
            rotate_left
            ·simp only [Act.put, List.setIfInBounds_toArray, List.set_cons_zero, List.set_cons_succ, i64_w, i32_w]
             rfl
            refine one_ (i := 20) (N := some 83) #[true, true, true, true, true, true, true, true, true, true, true, true, true, true, true, true, true, true, true, true, true, false, false, false, false, false, false, false, false, false, false] rfl rfl (one_of HT_.out (by kernel_rfl)) (by decide) (fun K hK => ?_)
            refine goes_ Try.func39 (by kernel_rfl) rfl #[.agg #[.int .i64 ((rd_T34 t246 0).f0), .int .i64 ((rd_T34 t246 0).f1)], .agg #[.int .i64 ((rd_T34 t252 0).f0), .int .i64 ((rd_T34 t252 0).f1)]] (by rfl) rfl rfl (by (try simp only [List.map_toArray, List.map_cons, List.map_nil]); first | done | rfl | (simp only [List.length_drop, List.length_take]; rfl)) ?_
            with_reducible refine (impl_WinTouch.calls ((rd_T34 t246 0).f0) ((rd_T34 t246 0).f1) ((rd_T34 t252 0).f0) ((rd_T34 t252 0).f1) true _ A41.out).mono ?_
            rintro e w97 ⟨rfl, hb⟩
            have HS0_ := (hb.cell (World.block_lt_of_cell? _ _ (hHeld.1))).trans (hHeld.1)
            have HS1_ := (hb.cell (World.block_lt_of_cell? _ _ (hHeld.2.1))).trans (hHeld.2.1)
            have HS2_ := (hb.cell (World.block_lt_of_cell? _ _ (hHeld.2.2.1))).trans (hHeld.2.2.1)
            have HS3_ := (hb.cell (World.block_lt_of_cell? _ _ (hHeld.2.2.2.1))).trans (hHeld.2.2.2.1)
            have HS4_ := (hb.cell (World.block_lt_of_cell? _ _ (hHeld.2.2.2.2.1))).trans (hHeld.2.2.2.2.1)
            have HS5_ := (hb.cell (World.block_lt_of_cell? _ _ (hHeld.2.2.2.2.2))).trans (hHeld.2.2.2.2.2)
            refine ⟨_, rfl, ?_⟩
            have n0_ := Aside0.mk (Kd.R_below (by (with_reducible repeat (first | apply Kd.R_alloc | apply Kd.R_drewN | apply Kd.R_drew)); exact HO248.out) hb)
            have n1_ := Aside0.mk (Kd.R_below (by (with_reducible repeat (first | apply Kd.R_alloc | apply Kd.R_drewN | apply Kd.R_drew)); exact HO251.out) hb)
            have n2_ := Aside0.mk (Kd.R_below (by (with_reducible repeat (first | apply Kd.R_alloc | apply Kd.R_drewN | apply Kd.R_drew)); exact HO254.out) hb)
            have n3_ := Aside0.mk (blk_below (g := gb235) (o := .cells #[.int .i64 t224, .int .i64 t225, .int .i64 t226, .int .i64 t227, .int .i64 t228, .int .i64 t229, .int .i64 t230, .bool t231, .int .i64 t232, .int .i64 t233] 50 (0, 0)) (by (with_reducible repeat (first | refine blk_drewN ?_ _ | refine blk_drew ?_ | refine blk_alloc ?_ _)); exact BK235.out) hb)
            have n4_ := Aside0.mk (blk_below (g := gb243) (o := .cells #[.int .i64 t224, .int .i64 t225, .int .i64 1, .int .i64 t227, .int .i64 0, .int .i64 t229, .int .i64 t230, .bool t231, .int .i64 t232, .int .i64 t233] 50 (0, 0)) (by (with_reducible repeat (first | refine blk_drewN ?_ _ | refine blk_drew ?_ | refine blk_alloc ?_ _)); exact BK243.out) hb)
            have n5_ := Aside0.mk (blk_below (g := gb244) (o := .cells #[.int .i64 t224, .int .i64 t225, .int .i64 2, .int .i64 t227, .int .i64 t227, .int .i64 t229, .int .i64 t230, .bool t231, .int .i64 t232, .int .i64 t233] 50 (0, 0)) (by (with_reducible repeat (first | refine blk_drewN ?_ _ | refine blk_drew ?_ | refine blk_alloc ?_ _)); exact BK244.out) hb)
            have n6_ := Aside0.mk (blk_below (g := gb245) (o := .cells #[.int .i64 t224, .int .i64 t225, .int .i64 3, .int .i64 t227, .int .i64 0, .int .i64 t229, .int .i64 t230, .bool t231, .int .i64 t232, .int .i64 t233] 50 (0, 0)) (by (with_reducible repeat (first | refine blk_drewN ?_ _ | refine blk_drew ?_ | refine blk_alloc ?_ _)); exact BK245.out) hb)
            have n7_ := Aside0.mk (below_step (by repeat (first | (with_reducible first | exact HB.out | apply below_alloc | apply pw_below_drewN | apply below_drew1 | refine below_set ?_ GE235.out | refine below_set ?_ GE243.out | refine below_set ?_ GE244.out | refine below_set ?_ GE245.out) | exact HB.out)) hb)
            clear HO248
            clear HO251
            clear HO254
            clear BK235
            clear BK243
            clear BK244
            clear BK245
            clear HB
            have HO248 := n0_
            have HO251 := n1_
            have HO254 := n2_
            have BK235 := n3_
            have BK243 := n4_
            have BK244 := n5_
            have BK245 := n6_
            have HB := n7_
            clear n0_ n1_ n2_ n3_ n4_ n5_ n6_ n7_
            (try clear hb)
            (try clear hb2)
            (try clear hk)
            (try clear hi)
            refine hK.out _ _ ⟨HS0_, HS1_, HS2_, HS3_, HS4_, HS5_⟩ (fun hHeld => ?_)
            clear hK K
            refine norm_ (a' := ?_) ?_ ?_
            rotate_left
            ·show Act.put _ (some 83) _ = _
             simp only [Act.put, List.setIfInBounds_toArray, List.set_cons_zero, List.set_cons_succ, i64_w, i32_w]
             rfl
            refine pure_ (i := 21) (N := some 84) (v := ?_) (a' := ?_) #[true, true, true, true, true, true, true, true, true, true, true, true, true, true, true, true, true, true, true, true, true, true, false, false, false, false, false, false, false, false, false] rfl rfl (any_of HT_.out (by kernel_rfl)) (fun _ _ _ h => h) (Or.inl ⟨by rfl, ?_⟩) ?_ ?_
            rotate_left
            ·intro w'
             go_simp
             with_reducible rfl
            rotate_left
            ·simp only [Act.put, List.setIfInBounds_toArray, List.set_cons_zero, List.set_cons_succ, i64_w, i32_w]
             rfl
            refine pure_ (i := 22) (N := some 85) (v := ?_) (a' := ?_) #[true, true, true, true, true, true, true, true, true, true, true, true, true, true, true, true, true, true, true, true, true, true, true, false, false, false, false, false, false, false, false] rfl rfl (any_of HT_.out (by kernel_rfl)) (fun _ _ _ h => h) (Or.inl ⟨by rfl, ?_⟩) ?_ ?_
            rotate_left
            ·intro w'
             go_simp
             with_reducible rfl
            rotate_left
            ·simp only [Act.put, List.setIfInBounds_toArray, List.set_cons_zero, List.set_cons_succ, i64_w, i32_w]
             rfl
            refine pure_ (i := 23) (N := some 86) (v := ?_) (a' := ?_) #[true, true, true, true, true, true, true, true, true, true, true, true, true, true, true, true, true, true, true, true, true, true, true, true, false, false, false, false, false, false, false] rfl rfl (any_of HT_.out (by kernel_rfl)) (fun _ _ _ h => h) (Or.inl ⟨by rfl, ?_⟩) ?_ ?_
            rotate_left
            ·intro w'
             go_simp
             with_reducible rfl
            rotate_left
            ·simp only [Act.put, List.setIfInBounds_toArray, List.set_cons_zero, List.set_cons_succ, i64_w, i32_w]
             rfl
            refine pure_ (i := 24) (N := some 87) (v := ?_) (a' := ?_) #[true, true, true, true, true, true, true, true, true, true, true, true, true, true, true, true, true, true, true, true, true, true, true, true, true, false, false, false, false, false, false] rfl rfl (any_of HT_.out (by kernel_rfl)) (fun _ _ _ h => h) (Or.inl ⟨by rfl, ?_⟩) ?_ ?_
            rotate_left
            ·intro w'
             go_simp
             with_reducible rfl
            rotate_left
            ·simp only [Act.put, List.setIfInBounds_toArray, List.set_cons_zero, List.set_cons_succ, i64_w, i32_w]
             rfl
            refine pure_ (i := 25) (N := some 88) (v := ?_) (a' := ?_) #[true, true, true, true, true, true, true, true, true, true, true, true, true, true, true, true, true, true, true, true, true, true, true, true, true, true, false, false, false, false, false] rfl rfl (any_of HT_.out (by kernel_rfl)) (fun _ _ _ h => h) (Or.inl ⟨by rfl, ?_⟩) ?_ ?_
            rotate_left
            ·intro w'
             go_simp
             with_reducible rfl
            rotate_left
            ·simp only [Act.put, List.setIfInBounds_toArray, List.set_cons_zero, List.set_cons_succ, i64_w, i32_w]
             rfl
            refine pure_ (i := 27) (N := some 90) (v := ?_) (a' := ?_) #[true, true, true, true, true, true, true, true, true, true, true, true, true, true, true, true, true, true, true, true, true, true, true, true, true, true, false, true, false, false, false] rfl rfl (any_of HT_.out (by kernel_rfl)) (fun _ _ _ h => h) (Or.inl ⟨by rfl, ?_⟩) ?_ ?_
            rotate_left
            ·intro w'
             go_simp
             with_reducible rfl
            rotate_left
            ·simp only [Act.put, List.setIfInBounds_toArray, List.set_cons_zero, List.set_cons_succ, i64_w, i32_w]
             rfl
            refine take_ (i := 26) (N := some 89) (v := ?_) (a' := ?_) #[true, true, true, true, true, true, true, true, true, true, true, true, true, true, true, true, true, true, true, true, true, true, true, true, true, true, true, true, false, false, false] rfl rfl (take_ofW HT_.out HW_.out (by kernel_rfl)) (fun _ _ _ h => h) (Or.inl ⟨by rfl, ?_⟩) hHeld ?_ ?_
            rotate_left
            ·rintro w' ⟨s0, s1, s2, s3, s4, s5⟩
             go_simp
             with_reducible rfl
            rotate_left
            ·simp only [Act.put, List.setIfInBounds_toArray, List.set_cons_zero, List.set_cons_succ, i64_w, i32_w]
             rfl
            refine pure_ (i := 28) (N := some 91) (v := ?_) (a' := ?_) #[true, true, true, true, true, true, true, true, true, true, true, true, true, true, true, true, true, true, true, true, true, true, true, true, true, true, true, true, true, false, false] rfl rfl (any_of HT_.out (by kernel_rfl)) (fun _ _ _ h => h) (Or.inl ⟨by rfl, ?_⟩) ?_ ?_
            rotate_left
            ·intro w'
             go_simp
             with_reducible rfl
            rotate_left
            ·simp only [Act.put, List.setIfInBounds_toArray, List.set_cons_zero, List.set_cons_succ, i64_w, i32_w]
             rfl
            refine pure_ (i := 29) (N := some 92) (v := ?_) (a' := ?_) #[true, true, true, true, true, true, true, true, true, true, true, true, true, true, true, true, true, true, true, true, true, true, true, true, true, true, true, true, true, true, false] rfl rfl (any_of HT_.out (by kernel_rfl)) (fun _ _ _ h => h) (Or.inl ⟨by rfl, ?_⟩) ?_ ?_
            rotate_left
            ·intro w'
             go_simp
             with_reducible rfl
            rotate_left
            ·simp only [Act.put, List.setIfInBounds_toArray, List.set_cons_zero, List.set_cons_succ, i64_w, i32_w]
             rfl
            refine pure_ (i := 30) (N := some 2) (v := ?_) (a' := ?_) #[true, true, true, true, true, true, true, true, true, true, true, true, true, true, true, true, true, true, true, true, true, true, true, true, true, true, true, true, true, true, true] rfl rfl (any_of HT_.out (by kernel_rfl)) (fun _ _ _ h => h) (Or.inl ⟨by rfl, ?_⟩) ?_ ?_
            rotate_left
            ·intro w'
             go_simp
             with_reducible rfl
            rotate_left
            ·simp only [Act.put, List.setIfInBounds_toArray, List.set_cons_zero, List.set_cons_succ, i64_w, i32_w]
             rfl
            refine done_ (done_of HT_.out (by kernel_rfl)) ?_
            try go_wp2
            go_ret
            exact ⟨by first | rfl | (refine congrArg (fun b_ => Ending.returned (Value.bool b_)) ?_; first | exact hrt_.out | simpa using hrt_.out | (have hq_ := hrt_.out; simp at hq_ ⊢; omega)) | (simp [errW_none, errW_some] <;> rfl) | (simp [*, errW_none, errW_some] <;> rfl), by repeat (first | (with_reducible first | exact HB.out | apply below_alloc | apply pw_below_drewN | apply below_drew1 | refine below_set ?_ GE235.out | refine below_set ?_ GE243.out | refine below_set ?_ GE244.out | refine below_set ?_ GE245.out) | exact HB.out)⟩
           ·replace c42 := Bool.eq_false_iff.mpr c42
            subst c42
            have H1 : (some false) = some true := by rw [if_neg (show ¬ (false = true) by decide)] at H; exact H
            clear H
            have H := H1
            clear H1
            exact absurd H (by simp)
          ·rw [if_neg c40] at H
           exact absurd H (by simp)
         ·rw [if_neg c39] at H
          exact absurd H (by simp)
        ·rw [if_neg c38] at H
         have c38b0 : ((t252.length : Int) == 1) = false := beq_eq_false_iff_ne.mpr c38
         have c38b1 : ((t252.length : Int) != 1) = true := bne_iff_ne.mpr c38
         exact absurd H (by simp)
       ·replace c37 := Bool.eq_false_iff.mpr c37
        subst c37
        have H1 : (some false) = some true := by rw [if_neg (show ¬ (false = true) by decide)] at H; exact H
        clear H
        have H := H1
        clear H1
        exact absurd H (by simp)
      ·rw [if_neg c35] at H
       have c35b0 : ((t246.length : Int) == 1) = false := beq_eq_false_iff_ne.mpr c35
       have c35b1 : ((t246.length : Int) != 1) = true := bne_iff_ne.mpr c35
       exact absurd H (by simp)

/-- THE ONE PURE STATEMENT of laws_FnWinStep: yours. -/
def laws_FnWinStep.Pure : Prop := ∀ (l0 : List Int), l0.length ≤ maxLen → l0.length * 1 ≤ 140737488351232 → (∀ x ∈ l0, (Lit.int .u8 x).wf = true) → ∃ k, laws_FnWinStep.f k l0 = some true
theorem laws_FnWinStep.walk (P : laws_FnWinStep.Pure) (a0 : Option Addr) (len0 cap0 : Nat) (z0 : List Int) (w : World) (w0 : (a0 = none ∧ len0 = 0 ∧ cap0 = 0 ∧ z0 = []) ∨ ∃ x, a0 = some x ∧ len0 ≤ cap0 ∧ cap0 ≤ maxLen ∧ z0.length = cap0 ∧ (∀ i, i < z0.length → w.cell? (x.add i) = some (.int .u8 (z0.getD i 0))) ∧ ∀ n ∈ z0, (Lit.int .u8 n).wf = true) (y0 : len0 * 1 ≤ 140737488351232) :
  Calls Try.prog 7 #[.slice a0 len0 cap0] w fun e w' => e = .returned (.bool true) ∧ Below w.heap.size w w' := by
 obtain ⟨l0, rfl, hr0, hm0, hw0, hc0⟩ := ReadsInt.ofRowC w0
 obtain ⟨k, h⟩ := P l0 hm0 y0 hw0
 refine (laws_FnWinStep.calls k _ _ l0 w (Kd.C_of_reads (d := (0 : Int)) (h1 := fun _ => rfl) hr0) hc0 h).mono ?_
 rintro e w' ⟨rfl, hd⟩
 exact ⟨rfl, hd⟩

end Go.Proofs.Ytkmckalckafloaa.PFnWinStep
-- thin
