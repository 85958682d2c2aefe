/- Functions of the program as Lean functions, with their contracts, written by a program of mine over the kit's printer and in part by hand. No condition of its own. -/
import Derived.Test.YtjclmjmbhhlbcaaQFnTabSamex0
import Derived.Test.YtjclmjmbhhlbcaaQFnTabSamex3
import Derived.Test.YtjclmjmbhhlbcaaQFnTabSamex5
import Derived.Test.YtjclmjmbhhlbcaaQFnTabSamex6
namespace Go.Proofs.Ytjclmjmbhhlbcaa.PFnTabSame
open Go.RowKit Go.Proofs.YtjclmjmbhhlbcaaW.PrintWords Go.Proofs.YtjclmjmbhhlbcaaW.PrintLast Go.Proofs.YtjclmjmbhhlbcaaW.PrintMore
attribute [local go_sem] max2_int min2_int max_two min_two max_three min_three max_four min_four   -- for this text's walks alone
set_option linter.unusedVariables false
set_option linter.unusedSimpArgs false

/-! ### spec_l20Pane: function 65 -/
mutual
def spec_l20Pane.j0 : Nat → Int → List Int → Int → Int → Int → Int → Int → Int → Int → Int → Int → Int → Option (Int × Int × Int × Int × Int × Int × Int × Int × Int × Int)
  | 0, _, _, _, _, _, _, _, _, _, _, _, _ => none
  | k + 1, x1, x1000, x1001, x267000, x267001, x267002, x267003, x267004, x267005, x267006, x267007, x267008 => (spec_l20Rd_pick.f k x1000 x1001 5).bind fun bt271 => (if bt271.1 = 0 then ((spec_l20Rd_pick.f k x1000 bt271.2 3).bind fun bt273 => (spec_l20Pane.j1 k x1 x1000 bt273.2 x267000 x267001 x267002 (wrap64 (1 + bt273.1)) 3 0 0 0 0)) else (spec_l20Pane.j1 k x1 x1000 bt271.2 x267000 x267001 x267002 x267003 x267004 x267005 x267006 x267007 x267008))
def spec_l20Pane.j1 : Nat → Int → List Int → Int → Int → Int → Int → Int → Int → Int → Int → Int → Int → Option (Int × Int × Int × Int × Int × Int × Int × Int × Int × Int)
  | 0, _, _, _, _, _, _, _, _, _, _, _, _ => none
  | k + 1, x1, x1000, x1001, x267000, x267001, x267002, x267003, x267004, x267005, x267006, x267007, x267008 => (spec_l20Rd_pick.f k x1000 x1001 x1).bind fun bt275 => (if bt275.1 > 0 then (some (x267000, x267001, x267002, x267003, x267004, x267005, x267006, x267007, x267008, bt275.2)) else ((spec_l20Rd_pick.f k x1000 bt275.2 5).bind fun bt277 => (if bt277.1 = 0 then ((some (([(-1), 4] : List Int) : List Int)).bind fun y279 => ((spec_l20Rd_pick.f k x1000 bt277.2 2).bind fun bt282 => (if 0 ≤ bt282.1 then (if bt282.1 < (y279.length : Int) then (some (rd y279 bt282.1, x267001, x267002, x267003, x267004, x267005, x267006, x267007, x267008, bt282.2)) else (none)) else (none)))) else (if bt277.1 = 1 then ((spec_l20Win.f k x1000 bt277.2 1).bind fun bt285 => (some (x267000, bt285.1, bt285.2.1, x267003, x267004, x267005, x267006, x267007, x267008, bt285.2.2))) else (if bt277.1 = 2 then ((some (([(-1), 0, 1, 1500, 1501] : List Int) : List Int)).bind fun y288 => ((spec_l20Rd_pick.f k x1000 bt277.2 5).bind fun bt291 => (if 0 ≤ bt291.1 then (if bt291.1 < (y288.length : Int) then (some (x267000, x267001, x267002, rd y288 bt291.1, x267004, x267005, x267006, x267007, x267008, bt291.2)) else (none)) else (none)))) else (if bt277.1 = 3 then ((spec_l20Rd_pick.f k x1000 bt277.2 5).bind fun bt294 => (some (x267000, x267001, x267002, x267003, bt294.1, x267005, x267006, x267007, x267008, bt294.2))) else ((spec_l20Agg.f k x1000 bt277.2 1).bind fun bt296 => (some (x267000, x267001, x267002, x267003, x267004, bt296.1, bt296.2.1, bt296.2.2.1, bt296.2.2.2.1, bt296.2.2.2.2)))))))))
end
def spec_l20Pane.f (k : Nat) (s0_0 : List Int) (s0_1 : Int) (a1 : Int) : Option (Int × Int × Int × Int × Int × Int × Int × Int × Int × Int) := (spec_l20Rd_pick.f k s0_0 s0_1 3).bind fun bt247 => ((some (([(⟨0, 5⟩ : S26), (⟨5, 10⟩ : S26), (⟨3, 12⟩ : S26)] : List (S26)) : List (S26))).bind fun y249 => ((spec_l20Rd_pick.f k s0_0 bt247.2 3).bind fun bt252 => (if 0 ≤ bt252.1 then (if bt252.1 < (y249.length : Int) then ((spec_l20Agg.f k s0_0 bt252.2 99).bind fun bt255 => ((spec_l20Rd_pick.f k s0_0 bt255.2.2.2.2 19).bind fun bt260 => ((spec_AggAdd.f bt255.1 bt255.2.1 bt255.2.2.1 bt255.2.2.2.1 (wrap64 (bt260.1 - 9))).bind fun bt262 => ((spec_l20Rd_pick.f k s0_0 bt260.2 2).bind fun bt267 => (if bt267.1 = 0 then ((spec_l20Rd_pick.f k s0_0 bt267.2 3).bind fun bt269 => (spec_l20Pane.j0 k a1 s0_0 bt269.2 bt247.1 ((rd_T26 y249 bt252.1).f0) ((rd_T26 y249 bt252.1).f1) (wrap64 (1 + bt269.1)) 2 bt262.1 bt262.2.1 bt262.2.2.1 bt262.2.2.2)) else (spec_l20Pane.j0 k a1 s0_0 bt267.2 bt247.1 ((rd_T26 y249 bt252.1).f0) ((rd_T26 y249 bt252.1).f1) 0 1 bt262.1 bt262.2.1 bt262.2.2.1 bt262.2.2.2)))))) else (none)) else (none))))
theorem spec_l20Pane.mono_l : ∀ k, (∀ y0 y1 y2 y3 y4 y5 y6 y7 y8 y9 y10 y11, LeO (spec_l20Pane.j0 k y0 y1 y2 y3 y4 y5 y6 y7 y8 y9 y10 y11) (spec_l20Pane.j0 (k + 1) y0 y1 y2 y3 y4 y5 y6 y7 y8 y9 y10 y11)) ∧ (∀ y0 y1 y2 y3 y4 y5 y6 y7 y8 y9 y10 y11, LeO (spec_l20Pane.j1 k y0 y1 y2 y3 y4 y5 y6 y7 y8 y9 y10 y11) (spec_l20Pane.j1 (k + 1) y0 y1 y2 y3 y4 y5 y6 y7 y8 y9 y10 y11))
  | 0 => ⟨fun _ _ _ _ _ _ _ _ _ _ _ _ r h => by simp [spec_l20Pane.j0] at h, fun _ _ _ _ _ _ _ _ _ _ _ _ r h => by simp [spec_l20Pane.j1] at h⟩
  | k + 1 => by
    obtain ⟨ih0, ih1⟩ := spec_l20Pane.mono_l k
    refine ⟨?_, ?_⟩
    · intro y0 y1 y2 y3 y4 y5 y6 y7 y8 y9 y10 y11
      unfold spec_l20Pane.j0
      repeat' first
      | (with_reducible exact ih0 _ _ _ _ _ _ _ _ _ _ _ _)
      | (with_reducible exact ih1 _ _ _ _ _ _ _ _ _ _ _ _)
      | (with_reducible exact spec_l20Agg.mono _ _ _ _)
      | (with_reducible exact spec_l20Rd_pick.mono _ _ _ _)
      | (with_reducible exact spec_l20Win.mono _ _ _ _)
      | (with_reducible exact LeO.refl _)
      | (with_reducible exact LeO.none _)
      | (with_reducible refine LeO.ite ?_ ?_)
      | (with_reducible refine LeO.bind ?_ (fun _ => ?_))
      | exact ih0 _ _ _ _ _ _ _ _ _ _ _ _
      | exact ih1 _ _ _ _ _ _ _ _ _ _ _ _
      | exact spec_l20Agg.mono _ _ _ _
      | exact spec_l20Rd_pick.mono _ _ _ _
      | exact spec_l20Win.mono _ _ _ _
      | exact LeO.none _
      | refine LeO.ite ?_ ?_
      | refine LeO.bind ?_ (fun _ => ?_)
    · intro y0 y1 y2 y3 y4 y5 y6 y7 y8 y9 y10 y11
      unfold spec_l20Pane.j1
      repeat' first
      | (with_reducible exact ih0 _ _ _ _ _ _ _ _ _ _ _ _)
      | (with_reducible exact ih1 _ _ _ _ _ _ _ _ _ _ _ _)
      | (with_reducible exact spec_l20Agg.mono _ _ _ _)
      | (with_reducible exact spec_l20Rd_pick.mono _ _ _ _)
      | (with_reducible exact spec_l20Win.mono _ _ _ _)
      | (with_reducible exact LeO.refl _)
      | (with_reducible exact LeO.none _)
      | (with_reducible refine LeO.ite ?_ ?_)
      | (with_reducible refine LeO.bind ?_ (fun _ => ?_))
      | exact ih0 _ _ _ _ _ _ _ _ _ _ _ _
      | exact ih1 _ _ _ _ _ _ _ _ _ _ _ _
      | exact spec_l20Agg.mono _ _ _ _
      | exact spec_l20Rd_pick.mono _ _ _ _
      | exact spec_l20Win.mono _ _ _ _
      | exact LeO.none _
      | refine LeO.ite ?_ ?_
      | refine LeO.bind ?_ (fun _ => ?_)
theorem spec_l20Pane.mono : ∀ a0 a1 a2 k, LeO (spec_l20Pane.f k a0 a1 a2) (spec_l20Pane.f (k + 1) a0 a1 a2) := by
  intro a0 a1 a2 k
  obtain ⟨ih0, ih1⟩ := spec_l20Pane.mono_l k
  unfold spec_l20Pane.f
  repeat' first
      | (with_reducible exact ih0 _ _ _ _ _ _ _ _ _ _ _ _)
      | (with_reducible exact ih1 _ _ _ _ _ _ _ _ _ _ _ _)
      | (with_reducible exact spec_l20Agg.mono _ _ _ _)
      | (with_reducible exact spec_l20Rd_pick.mono _ _ _ _)
      | (with_reducible exact spec_l20Win.mono _ _ _ _)
      | (with_reducible exact LeO.refl _)
      | (with_reducible exact LeO.none _)
      | (with_reducible refine LeO.ite ?_ ?_)
      | (with_reducible refine LeO.bind ?_ (fun _ => ?_))
      | exact ih0 _ _ _ _ _ _ _ _ _ _ _ _
      | exact ih1 _ _ _ _ _ _ _ _ _ _ _ _
      | exact spec_l20Agg.mono _ _ _ _
      | exact spec_l20Rd_pick.mono _ _ _ _
      | exact spec_l20Win.mono _ _ _ _
      | exact LeO.none _
      | refine LeO.ite ?_ ?_
      | refine LeO.bind ?_ (fun _ => ?_)
def spec_l20Pane.T1 : Bool × List (List Nat × List Nat) := (true, [([], []), ([0], [0]), ([], []), ([], []), ([], []), ([2, 3, 4], [2, 3, 4]), ([], []), ([6, 1], [6]), ([5, 7], [5, 7]), ([8], [8]), ([], []), ([10, 7], [10]), ([], []), ([12, 11], [12]), ([13], [13]), ([11, 14, 13], [11, 14]), ([1, 9, 15], [1, 9, 15]), ([], []), ([17, 16, 15, 0, 1, 2, 3, 4, 5, 6, 7, 8, 9, 10, 11, 12, 13, 14, 15, 16, 17], [16, 17])])
def spec_l20Pane.B1 : List Nat := [0, 1, 0, 0, 0, 28, 0, 67, 255, 511, 0, 1219, 0, 7363, 15555, 31939, 65535, 0, 262143]
theorem spec_l20Pane.tab1 : rtab .any (opsOf Try.f65 1) = spec_l20Pane.T1 := by kernel_rfl
theorem spec_l20Pane.bits1 : waitsOk spec_l20Pane.T1.2 spec_l20Pane.B1 = true := by kernel_rfl
def spec_l20Pane.T6 : Bool × List (List Nat × List Nat) := (true, [([], []), ([0], [0]), ([], []), ([2], [2]), ([], []), ([4], [4]), ([5], [5]), ([1, 3, 6], [1, 3, 6]), ([7, 5, 0, 1, 2, 3, 4, 5, 6, 7], [7])])
def spec_l20Pane.B6 : List Nat := [0, 1, 0, 4, 0, 16, 48, 127, 255]
theorem spec_l20Pane.tab6 : rtab .any (opsOf Try.f65 6) = spec_l20Pane.T6 := by kernel_rfl
theorem spec_l20Pane.bits6 : waitsOk spec_l20Pane.T6.2 spec_l20Pane.B6 = true := by kernel_rfl
set_option maxHeartbeats 8000000 in
set_option maxRecDepth 100000 in
theorem spec_l20Pane.calls (k : Nat) (g : Nat) (s0_0 : List Int) (s0_1 : Int) (a1 : Int) (r1 : Int) (r2 : Int) (r3 : Int) (r4 : Int) (r5 : Int) (r6 : Int) (r7 : Int) (r8 : Int) (r9 : Int) (r10 : Int) (w0 w : World) (hI : IsS81 w0 w g s0_0 s0_1) (hB : Below w0.heap.size w0 w) (h : spec_l20Pane.f k s0_0 s0_1 a1 = some (r1, r2, r3, r4, r5, r6, r7, r8, r9, r10)) :
    Calls Try.prog 65 #[.pointer (some ⟨g, 0, none⟩), .int .i64 a1] w fun e w' => e = .returned (.agg #[.int .i64 r1, .int .i64 r2, .int .i64 r3, .int .i64 r4, .int .i64 r5, .int .i64 r6, .int .i64 r7, .int .i64 r8, .int .i64 r9]) ∧ IsS81 w0 w' g s0_0 r10 ∧ Below w0.heap.size w0 w' ∧ KeepBut w w' g none := by
  have hu89 := Try.underlying89
  have hu26 := Try.underlying26
  have hu34 := Try.underlying34
  have HI0 := Aside0.mk hI
  have HG0 := Aside0.mk (show g < w.heap.size from hI.lt)
  have HK := Aside0.mk (KeepBut.refl w g none)
  have HL := Aside0.mk hB.size
  clear hI
  have HW0 := Aside0.mk hB.size
  have HB := Aside0.mk hB
  clear hB
  have H : ((spec_l20Rd_pick.f k s0_0 s0_1 3).bind fun bt247 => ((some (([(⟨0, 5⟩ : S26), (⟨5, 10⟩ : S26), (⟨3, 12⟩ : S26)] : List (S26)) : List (S26))).bind fun y249 => ((spec_l20Rd_pick.f k s0_0 bt247.2 3).bind fun bt252 => (if 0 ≤ bt252.1 then (if bt252.1 < (y249.length : Int) then ((spec_l20Agg.f k s0_0 bt252.2 99).bind fun bt255 => ((spec_l20Rd_pick.f k s0_0 bt255.2.2.2.2 19).bind fun bt260 => ((spec_AggAdd.f bt255.1 bt255.2.1 bt255.2.2.1 bt255.2.2.2.1 (wrap64 (bt260.1 - 9))).bind fun bt262 => ((spec_l20Rd_pick.f k s0_0 bt260.2 2).bind fun bt267 => (if bt267.1 = 0 then ((spec_l20Rd_pick.f k s0_0 bt267.2 3).bind fun bt269 => (spec_l20Pane.j0 k a1 s0_0 bt269.2 bt247.1 ((rd_T26 y249 bt252.1).f0) ((rd_T26 y249 bt252.1).f1) (wrap64 (1 + bt269.1)) 2 bt262.1 bt262.2.1 bt262.2.2.1 bt262.2.2.2)) else (spec_l20Pane.j0 k a1 s0_0 bt267.2 bt247.1 ((rd_T26 y249 bt252.1).f0) ((rd_T26 y249 bt252.1).f1) 0 1 bt262.1 bt262.2.1 bt262.2.2.1 bt262.2.2.2)))))) else (none)) else (none))))) = some (r1, r2, r3, r4, r5, r6, r7, r8, r9, r10) := h
  clear h
  replace H := Option.bind_eq_some_iff.mp H
  obtain ⟨⟨t247, t248⟩, A30, H⟩ := H
  replace H : ((some (([(⟨0, 5⟩ : S26), (⟨5, 10⟩ : S26), (⟨3, 12⟩ : S26)] : List (S26)) : List (S26))).bind fun y249 => ((spec_l20Rd_pick.f k s0_0 t248 3).bind fun bt252 => (if 0 ≤ bt252.1 then (if bt252.1 < (y249.length : Int) then ((spec_l20Agg.f k s0_0 bt252.2 99).bind fun bt255 => ((spec_l20Rd_pick.f k s0_0 bt255.2.2.2.2 19).bind fun bt260 => ((spec_AggAdd.f bt255.1 bt255.2.1 bt255.2.2.1 bt255.2.2.2.1 (wrap64 (bt260.1 - 9))).bind fun bt262 => ((spec_l20Rd_pick.f k s0_0 bt260.2 2).bind fun bt267 => (if bt267.1 = 0 then ((spec_l20Rd_pick.f k s0_0 bt267.2 3).bind fun bt269 => (spec_l20Pane.j0 k a1 s0_0 bt269.2 t247 ((rd_T26 y249 bt252.1).f0) ((rd_T26 y249 bt252.1).f1) (wrap64 (1 + bt269.1)) 2 bt262.1 bt262.2.1 bt262.2.2.1 bt262.2.2.2)) else (spec_l20Pane.j0 k a1 s0_0 bt267.2 t247 ((rd_T26 y249 bt252.1).f0) ((rd_T26 y249 bt252.1).f1) 0 1 bt262.1 bt262.2.1 bt262.2.2.1 bt262.2.2.2)))))) else (none)) else (none)))) = some (r1, r2, r3, r4, r5, r6, r7, r8, r9, r10) := H
  have A3 := Aside0.mk A30
  clear A30
  obtain ⟨y249, hy249⟩ : ∃ y_ : List (S26), y_ = (([(⟨0, 5⟩ : S26), (⟨5, 10⟩ : S26), (⟨3, 12⟩ : S26)] : List (S26))) := ⟨_, rfl⟩
  replace H : ((spec_l20Rd_pick.f k s0_0 t248 3).bind fun bt252 => (if 0 ≤ bt252.1 then (if bt252.1 < (y249.length : Int) then ((spec_l20Agg.f k s0_0 bt252.2 99).bind fun bt255 => ((spec_l20Rd_pick.f k s0_0 bt255.2.2.2.2 19).bind fun bt260 => ((spec_AggAdd.f bt255.1 bt255.2.1 bt255.2.2.1 bt255.2.2.2.1 (wrap64 (bt260.1 - 9))).bind fun bt262 => ((spec_l20Rd_pick.f k s0_0 bt260.2 2).bind fun bt267 => (if bt267.1 = 0 then ((spec_l20Rd_pick.f k s0_0 bt267.2 3).bind fun bt269 => (spec_l20Pane.j0 k a1 s0_0 bt269.2 t247 ((rd_T26 y249 bt252.1).f0) ((rd_T26 y249 bt252.1).f1) (wrap64 (1 + bt269.1)) 2 bt262.1 bt262.2.1 bt262.2.2.1 bt262.2.2.2)) else (spec_l20Pane.j0 k a1 s0_0 bt267.2 t247 ((rd_T26 y249 bt252.1).f0) ((rd_T26 y249 bt252.1).f1) 0 1 bt262.1 bt262.2.1 bt262.2.2.1 bt262.2.2.2)))))) else (none)) else (none))) = some (r1, r2, r3, r4, r5, r6, r7, r8, r9, r10) := by first | (rw [hy249]; with_reducible exact H) | (have H2_ := (Option.bind_some _ _).symm.trans H; rw [hy249]; with_reducible exact H2_) | (have H2_ := (Option.bind_some _ _).symm.trans H; with_reducible exact H2_) | with_reducible exact H | (rw [hy249]; exact H) | exact H
  have Ny249 := Aside0.mk hy249
  clear hy249
  replace H := Option.bind_eq_some_iff.mp H
  obtain ⟨⟨t252, t253⟩, A40, H⟩ := H
  replace H : (if 0 ≤ t252 then (if t252 < (y249.length : Int) then ((spec_l20Agg.f k s0_0 t253 99).bind fun bt255 => ((spec_l20Rd_pick.f k s0_0 bt255.2.2.2.2 19).bind fun bt260 => ((spec_AggAdd.f bt255.1 bt255.2.1 bt255.2.2.1 bt255.2.2.2.1 (wrap64 (bt260.1 - 9))).bind fun bt262 => ((spec_l20Rd_pick.f k s0_0 bt260.2 2).bind fun bt267 => (if bt267.1 = 0 then ((spec_l20Rd_pick.f k s0_0 bt267.2 3).bind fun bt269 => (spec_l20Pane.j0 k a1 s0_0 bt269.2 t247 ((rd_T26 y249 t252).f0) ((rd_T26 y249 t252).f1) (wrap64 (1 + bt269.1)) 2 bt262.1 bt262.2.1 bt262.2.2.1 bt262.2.2.2)) else (spec_l20Pane.j0 k a1 s0_0 bt267.2 t247 ((rd_T26 y249 t252).f0) ((rd_T26 y249 t252).f1) 0 1 bt262.1 bt262.2.1 bt262.2.2.1 bt262.2.2.2)))))) else (none)) else (none)) = some (r1, r2, r3, r4, r5, r6, r7, r8, r9, r10) := H
  have A4 := Aside0.mk A40
  clear A40
  by_cases c5 : 0 ≤ t252
  · rw [if_pos c5] at H
    have c5b0 : decide (0 ≤ t252) = true := decide_eq_true c5
    clear c5
    by_cases c6 : t252 < (y249.length : Int)
    · rw [if_pos c6] at H
      have c6b0 : decide (t252 < (y249.length : Int)) = true := decide_eq_true c6
      clear c6
      replace H := Option.bind_eq_some_iff.mp H
      obtain ⟨⟨t255, t256, t257, t258, t259⟩, A70, H⟩ := H
      replace H : ((spec_l20Rd_pick.f k s0_0 t259 19).bind fun bt260 => ((spec_AggAdd.f t255 t256 t257 t258 (wrap64 (bt260.1 - 9))).bind fun bt262 => ((spec_l20Rd_pick.f k s0_0 bt260.2 2).bind fun bt267 => (if bt267.1 = 0 then ((spec_l20Rd_pick.f k s0_0 bt267.2 3).bind fun bt269 => (spec_l20Pane.j0 k a1 s0_0 bt269.2 t247 ((rd_T26 y249 t252).f0) ((rd_T26 y249 t252).f1) (wrap64 (1 + bt269.1)) 2 bt262.1 bt262.2.1 bt262.2.2.1 bt262.2.2.2)) else (spec_l20Pane.j0 k a1 s0_0 bt267.2 t247 ((rd_T26 y249 t252).f0) ((rd_T26 y249 t252).f1) 0 1 bt262.1 bt262.2.1 bt262.2.2.1 bt262.2.2.2))))) = some (r1, r2, r3, r4, r5, r6, r7, r8, r9, r10) := H
      have A7 := Aside0.mk A70
      clear A70
      replace H := Option.bind_eq_some_iff.mp H
      obtain ⟨⟨t260, t261⟩, A80, H⟩ := H
      replace H : ((spec_AggAdd.f t255 t256 t257 t258 (wrap64 (t260 - 9))).bind fun bt262 => ((spec_l20Rd_pick.f k s0_0 t261 2).bind fun bt267 => (if bt267.1 = 0 then ((spec_l20Rd_pick.f k s0_0 bt267.2 3).bind fun bt269 => (spec_l20Pane.j0 k a1 s0_0 bt269.2 t247 ((rd_T26 y249 t252).f0) ((rd_T26 y249 t252).f1) (wrap64 (1 + bt269.1)) 2 bt262.1 bt262.2.1 bt262.2.2.1 bt262.2.2.2)) else (spec_l20Pane.j0 k a1 s0_0 bt267.2 t247 ((rd_T26 y249 t252).f0) ((rd_T26 y249 t252).f1) 0 1 bt262.1 bt262.2.1 bt262.2.2.1 bt262.2.2.2)))) = some (r1, r2, r3, r4, r5, r6, r7, r8, r9, r10) := H
      have A8 := Aside0.mk A80
      clear A80
      replace H := Option.bind_eq_some_iff.mp H
      obtain ⟨⟨t262, t263, t264, t265⟩, A90, H⟩ := H
      replace H : ((spec_l20Rd_pick.f k s0_0 t261 2).bind fun bt267 => (if bt267.1 = 0 then ((spec_l20Rd_pick.f k s0_0 bt267.2 3).bind fun bt269 => (spec_l20Pane.j0 k a1 s0_0 bt269.2 t247 ((rd_T26 y249 t252).f0) ((rd_T26 y249 t252).f1) (wrap64 (1 + bt269.1)) 2 t262 t263 t264 t265)) else (spec_l20Pane.j0 k a1 s0_0 bt267.2 t247 ((rd_T26 y249 t252).f0) ((rd_T26 y249 t252).f1) 0 1 t262 t263 t264 t265))) = some (r1, r2, r3, r4, r5, r6, r7, r8, r9, r10) := H
      have A9 := Aside0.mk A90
      clear A90
      replace H := Option.bind_eq_some_iff.mp H
      obtain ⟨⟨t267, t268⟩, A100, H⟩ := H
      replace H : (if t267 = 0 then ((spec_l20Rd_pick.f k s0_0 t268 3).bind fun bt269 => (spec_l20Pane.j0 k a1 s0_0 bt269.2 t247 ((rd_T26 y249 t252).f0) ((rd_T26 y249 t252).f1) (wrap64 (1 + bt269.1)) 2 t262 t263 t264 t265)) else (spec_l20Pane.j0 k a1 s0_0 t268 t247 ((rd_T26 y249 t252).f0) ((rd_T26 y249 t252).f1) 0 1 t262 t263 t264 t265)) = some (r1, r2, r3, r4, r5, r6, r7, r8, r9, r10) := H
      have A10 := Aside0.mk A100
      clear A100
      have HC11 := Aside0.mk H
      clear H
      go_enter Try.func65, Try.ntmps65
      try go_wp2_with (first | ((with_reducible refine gate_dst (N := 4) rfl ?_); refine box_event ?hg (N := 4) ?hd (cs := #[.int .i64 0, .int .i64 0, .int .i64 0, .int .i64 0, .int .i64 0, .int .i64 0, .int .i64 0, .int .i64 0, .int .i64 0]) (t := 89) ?hr ?_; (case hd => rfl); (case hg => rfl); (case hr => first | (go_simp; done) | (go_simp; rfl)); intro gb246 hg w12 hbox hb; have n0_ := Aside0.mk (IsS81.below (by repeat (first | (with_reducible first | exact HI0.out | apply IsS81.alloc | apply IsS81.drewN | apply IsS81.drew | apply IsS81.set_1) | exact HI0.out)) hb); have n1_ := Aside0.mk (KeepBut.trans (by repeat (first | (with_reducible first | exact HK.out | apply KeepBut.set_ | apply keep_drewN | apply keep_drew | apply keep_alloc) | exact HK.out)) (KeepBut.of_below hb g none) (.inl rfl)); have n2_ := Aside0.mk (below_step (by repeat (first | (with_reducible first | exact HB.out | apply below_alloc | apply pw_below_drewN | apply below_drew1 | refine below_set ?_ (IsS81.ge HI0.out)) | exact HB.out)) hb); have n3_ := Aside0.mk (hbox); have n4_ := Aside0.mk ((by rw [hg]; exact (keep_size (w := w) (g := g) (row := none) (by repeat (first | (with_reducible first | exact HK.out | apply KeepBut.set_ | apply keep_drewN | apply keep_drew | apply keep_alloc) | exact HK.out))) : w.heap.size ≤ gb246)); have n5_ := Aside0.mk ((Nat.le_trans HW0.out (by rw [hg]; exact (keep_size (w := w) (g := g) (row := none) (by repeat (first | (with_reducible first | exact HK.out | apply KeepBut.set_ | apply keep_drewN | apply keep_drew | apply keep_alloc) | exact HK.out))) : w.heap.size ≤ gb246) : w0.heap.size ≤ gb246)); have n6_ := Aside0.mk ((by rw [hg]; exact Nat.ne_of_lt (Nat.lt_of_lt_of_le HG0.out (keep_size (w := w) (g := g) (row := none) (by repeat (first | (with_reducible first | exact HK.out | apply KeepBut.set_ | apply keep_drewN | apply keep_drew | apply keep_alloc) | exact HK.out)))) : g ≠ gb246)); have n7_ := Aside0.mk ((by rw [hg]; exact Nat.ne_of_gt (Nat.lt_of_lt_of_le HG0.out (keep_size (w := w) (g := g) (row := none) (by repeat (first | (with_reducible first | exact HK.out | apply KeepBut.set_ | apply keep_drewN | apply keep_drew | apply keep_alloc) | exact HK.out)))) : gb246 ≠ g)); clear HI0; clear HK; clear HB; have HI0 := n0_; have HK := n1_; have HB := n2_; have BK246 := n3_; have GW246 := n4_; have GE246 := n5_; have NB0_246 := n6_; have NB246_0 := n7_; clear n0_ n1_ n2_ n3_ n4_ n5_ n6_ n7_; clear hb hbox hg))
      have pi254 : (0 ≤ (t252 : Int)) = True := eq_true (of_decide_eq_true (by first | (with_reducible assumption) | assumption))
      have qi254 : (t252 < (y249.length : Int)) = True := eq_true (of_decide_eq_true (by first | (with_reducible assumption) | assumption))
      have n0_ := Aside0.mk (blk_drew BK246.out)
      have n1_ := Aside0.mk (IsS81.drew HI0.out)
      have n2_ := Aside0.mk (keep_drew HK.out)
      have n3_ := Aside0.mk (below_drew1 HB.out)
      clear BK246
      clear HI0
      clear HK
      clear HB
      have BK246 := n0_
      have HI0 := n1_
      have HK := n2_
      have HB := n3_
      clear n0_ n1_ n2_ n3_
      refine start_ (n := 19) (S := fun w' => True) (ds := []) #[false, false, false, false, false, false, false, false, false, false, false, false, false, false, false, false, false, false, false] (by kernel_rfl) rfl rfl trivial (fun hHeld => ?_); refine with_tabW spec_l20Pane.tab1 spec_l20Pane.bits1 (fun HT_ HW_ => ?_)
      generalize w12.drew = w13 at BK246 HI0 HK HB hHeld ⊢
      refine pure_ (i := 0) (N := some 6) (v := ?_) (a' := ?_) #[true, false, false, false, false, false, false, false, false, false, false, false, false, false, false, false, false, false, false] rfl rfl (any_of HT_.out (by kernel_rfl)) (fun _ _ _ h => h) (Or.inl ⟨by rfl, ?_⟩) ?_ ?_
      rotate_left
      · intro w'
        go_simp
        with_reducible rfl
      rotate_left
      · simp only [Act.put, List.setIfInBounds_toArray, List.set_cons_zero, List.set_cons_succ, i64_w, i32_w]
        rfl
      refine pure_ (i := 6) (N := some 12) (v := ?_) (a' := ?_) #[true, false, false, false, false, false, true, false, false, false, false, false, false, false, false, false, false, false, false] rfl rfl (any_of HT_.out (by kernel_rfl)) (fun _ _ _ h => h) (Or.inl ⟨by rfl, ?_⟩) ?_ ?_
      rotate_left
      · intro w'
        go_simp
        with_reducible rfl
      rotate_left
      · simp only [Act.put, List.setIfInBounds_toArray, List.set_cons_zero, List.set_cons_succ, i64_w, i32_w]
        rfl
      refine pure_ (i := 10) (N := some 16) (v := ?_) (a' := ?_) #[true, false, false, false, false, false, true, false, false, false, true, false, false, false, false, false, false, false, false] rfl rfl (any_of HT_.out (by kernel_rfl)) (fun _ _ _ h => h) (Or.inl ⟨by rfl, ?_⟩) ?_ ?_
      rotate_left
      · intro w'
        go_simp
        with_reducible rfl
      rotate_left
      · simp only [Act.put, List.setIfInBounds_toArray, List.set_cons_zero, List.set_cons_succ, i64_w, i32_w]
        rfl
      refine pure_ (i := 12) (N := some 18) (v := ?_) (a' := ?_) #[true, false, false, false, false, false, true, false, false, false, true, false, true, false, false, false, false, false, false] rfl rfl (any_of HT_.out (by kernel_rfl)) (fun _ _ _ h => h) (Or.inl ⟨by rfl, ?_⟩) ?_ ?_
      rotate_left
      · intro w'
        go_simp
        with_reducible rfl
      rotate_left
      · simp only [Act.put, List.setIfInBounds_toArray, List.set_cons_zero, List.set_cons_succ, i64_w, i32_w]
        rfl
      refine inv_at [1, 2, 3, 4, 5, 7, 8, 9, 11, 13, 14, 15, 16, 17, 18] (fun a0_ b a w' => ∃ (v250 : Value) (adz_v250 : Addr) (gb266 : Nat) (m8_ : Value) (m17_ : Value), a = putSel a0_ b [(1, 7, .int .i64 t247), (2, 8, .agg #[.int .i64 0, .int .i64 5]), (3, 9, .agg #[.int .i64 5, .int .i64 10]), (4, 10, .agg #[.int .i64 3, .int .i64 12]), (5, 11, v250), (7, 13, .int .i64 t252), (8, 14, m8_), (9, 15, .agg #[.int .i64 ((rd_T26 y249 t252).f0), .int .i64 ((rd_T26 y249 t252).f1)]), (11, 17, .agg #[.int .i64 t255, .int .i64 t256, .int .i64 t257, .int .i64 t258]), (13, 19, .int .i64 t260), (14, 20, .int .i64 (wrap64 (t260 - 9))), (15, 21, .agg #[.int .i64 t262, .int .i64 t263, .int .i64 t264, .int .i64 t265]), (16, 22, .agg #[.int .i64 t247, .int .i64 ((rd_T26 y249 t252).f0), .int .i64 ((rd_T26 y249 t252).f1), .int .i64 0, .int .i64 1, .int .i64 t262, .int .i64 t263, .int .i64 t264, .int .i64 t265]), (17, 5, m17_)] ∧ (w'.heap[gb246]? = some (.cells #[.int .i64 0, .int .i64 0, .int .i64 0, .int .i64 0, .int .i64 0, .int .i64 0, .int .i64 0, .int .i64 0, .int .i64 0] 89 (0, 0))) ∧ (b 1 = false → IsS81 w0 w' g s0_0 s0_1) ∧ (KeepBut w w' g none) ∧ (Below w0.heap.size w0 w') ∧ (b 1 = true → b 7 = false → IsS81 w0 w' g s0_0 t248) ∧ (b 5 = true → Kd.R k26 26 w' w.heap.size (fun _ => True) v250 y249) ∧ (b 5 = true → ∃ c_, (v250 : Value) = .slice (some adz_v250) y249.length c_) ∧ (b 7 = true → b 11 = false → IsS81 w0 w' g s0_0 t253) ∧ (b 11 = true → b 13 = false → IsS81 w0 w' g s0_0 t259) ∧ (b 13 = true → IsS81 w0 w' g s0_0 t261) ∧ (b 17 = true → b 18 = false → w'.heap[gb266]? = some (.cells #[.int .i64 0, .int .i64 0, .int .i64 0, .int .i64 0, .int .i64 0, .int .i64 0, .int .i64 0, .int .i64 0, .int .i64 0] 89 (0, 0))) ∧ (b 17 = true → w.heap.size ≤ gb266) ∧ (b 17 = true → w0.heap.size ≤ gb266) ∧ (b 17 = true → g ≠ gb266) ∧ (b 17 = true → gb266 ≠ g) ∧ (b 17 = true → gb246 ≠ gb266) ∧ (b 17 = true → gb266 ≠ gb246) ∧ (b 18 = true → w'.heap[gb266]? = some (.cells #[.int .i64 t247, .int .i64 ((rd_T26 y249 t252).f0), .int .i64 ((rd_T26 y249 t252).f1), .int .i64 0, .int .i64 1, .int .i64 t262, .int .i64 t263, .int .i64 t264, .int .i64 t265] 89 (0, 0))) ∧ (b 8 = true → (m8_ : Value) = .pointer (some (adz_v250.add ((t252).toNat * 2)))) ∧ (b 17 = true → (m17_ : Value) = .pointer (some ⟨gb266, 0, none⟩))) HT_.out HW_.out (by kernel_rfl) (by kernel_rfl) ?_ ?_ ?_
      · exact ⟨.bool false, ⟨0, 0, none⟩, 0, .bool false, .bool false, by simp only [putSel, Bool.false_eq_true, if_false], BK246.out, fun _ => HI0.out, HK.out, HB.out, fun h_ => absurd h_ (by decide), fun h_ => absurd h_ (by decide), fun h_ => absurd h_ (by decide), fun h_ => absurd h_ (by decide), fun h_ => absurd h_ (by decide), fun h_ => absurd h_ (by decide), fun h_ => absurd h_ (by decide), fun h_ => absurd h_ (by decide), fun h_ => absurd h_ (by decide), fun h_ => absurd h_ (by decide), fun h_ => absurd h_ (by decide), fun h_ => absurd h_ (by decide), fun h_ => absurd h_ (by decide), fun h_ => absurd h_ (by decide), fun h_ => absurd h_ (by decide), fun h_ => absurd h_ (by decide)⟩
      · skip
        clear BK246 HB HI0 HK
        refine steps_cons ?_ ?_
        · rintro b a w' ⟨v250, adz_v250, gb266, m8_, m17_, ha, Q_BK246, Q_HI0, Q_HK, Q_HB, Q_HI0_e1, Q_HO251, Q_HA_HO251, Q_HI0_e7, Q_HI0_e11, Q_HI0_e13, Q_BK266, Q_GW266, Q_GE266, Q_NB0_266, Q_NB266_0, Q_NB246_266, Q_NB266_246, Q_BK266_e18, Q_X8_, Q_X17_⟩ hb_ hon hoff
          refine ⟨_, rfl, fun K hK => ?_⟩
          have e6 : a.tmps[6]? = some (.pointer (some ⟨g, 0, none⟩)) := by rw [ha]; exact (putSel_off rfl).trans rfl
          replace ha := Aside0.mk ha
          have BK246 := Aside0.mk Q_BK246
          have HI0 := Aside0.mk (Q_HI0 hb_)
          have HK := Aside0.mk Q_HK
          have HB := Aside0.mk Q_HB
          refine goes_ Try.func53 (by kernel_rfl) rfl #[.pointer (some ⟨g, 0, none⟩), .int .i64 3] (by rfl) rfl rfl (by first | (simp only [List.map_toArray, List.map_cons, List.map_nil, Act.eval, Array.getD_eq_getD_getElem?, Option.getD_some, e6]; done) | (simp only [List.map_toArray, List.map_cons, List.map_nil, Act.eval, Array.getD_eq_getD_getElem?, Option.getD_some, e6]; rfl)) ?_
          with_reducible refine (spec_l20Rd_pick.calls k g s0_0 s0_1 3 t247 t248 w0 _ ?side1 ?side2 A3.out).mono ?_
          (case side1 => repeat (first | (with_reducible first | exact HI0.out | apply IsS81.alloc | apply IsS81.drewN | apply IsS81.drew | apply IsS81.set_1 | refine IsS81.far ?_ NB0_246.out _) | exact HI0.out))
          (case side2 => repeat (first | (with_reducible first | exact HB.out | apply below_alloc | apply pw_below_drewN | apply below_drew1 | refine below_set ?_ (IsS81.ge HI0.out) | refine below_set ?_ GE246.out) | exact HB.out))
          rintro e w14 ⟨rfl, hi, hb, hk⟩
          refine ⟨_, rfl, ?_⟩
          have n0_ := Aside0.mk (KeepBut.blk hk (g' := gb246) (o := .cells #[.int .i64 0, .int .i64 0, .int .i64 0, .int .i64 0, .int .i64 0, .int .i64 0, .int .i64 0, .int .i64 0, .int .i64 0] 89 (0, 0)) (by (with_reducible repeat (first | refine blk_drewN ?_ _ | refine blk_drew ?_ | refine blk_alloc ?_ _)); exact BK246.out) NB246_0.out (by simp))
          have n1_ := Aside0.mk (KeepBut.trans (by repeat (first | (with_reducible first | exact HK.out | apply KeepBut.set_ | apply keep_drewN | apply keep_drew | apply keep_alloc | refine keep_far ?_ GW246.out _) | exact HK.out)) hk (.inl rfl))
          have n2_ := Aside0.mk (hb)
          have n3_ := Aside0.mk (hi)
          have z_HO251 := fun (h0_ : b 5 = true) => (show Kd.R k26 26 w14 w.heap.size (fun _ => True) v250 y249 from by first | exact (Kd.R_mono (Kd.R_keep (IsS81.apart (show IsS81 w0 _ g s0_0 s0_1 from by repeat (first | (with_reducible first | exact HI0.out | apply IsS81.alloc | apply IsS81.drewN | apply IsS81.drew | apply IsS81.set_1 | refine IsS81.far ?_ NB0_246.out _) | exact HI0.out)) (by (with_reducible repeat (first | apply Kd.R_alloc | apply Kd.R_drewN | apply Kd.R_drew)); exact (Q_HO251 h0_)) (by decide)) hk (fun _ h => h.2)) (fun _ h => h.1)) | exact Kd.R_mono (Kd.R_mono (Kd.R_keep (IsS81.apart (show IsS81 w0 _ g s0_0 s0_1 from by repeat (first | (with_reducible first | exact HI0.out | apply IsS81.alloc | apply IsS81.drewN | apply IsS81.drew | apply IsS81.set_1 | refine IsS81.far ?_ NB0_246.out _) | exact HI0.out)) (by (with_reducible repeat (first | apply Kd.R_alloc | apply Kd.R_drewN | apply Kd.R_drew)); exact (Q_HO251 h0_)) (by decide)) hk (fun _ h => h.2)) (fun _ h => h.1)) (fun _ h_ => by first | trivial | exact h_ | exact h_.1))
          have z_BK266 := fun (h0_ : b 17 = true) (h1_ : b 18 = false) => (show w14.heap[gb266]? = some (.cells #[.int .i64 0, .int .i64 0, .int .i64 0, .int .i64 0, .int .i64 0, .int .i64 0, .int .i64 0, .int .i64 0, .int .i64 0] 89 (0, 0)) from by first | exact (KeepBut.blk hk (g' := gb266) (o := .cells #[.int .i64 0, .int .i64 0, .int .i64 0, .int .i64 0, .int .i64 0, .int .i64 0, .int .i64 0, .int .i64 0, .int .i64 0] 89 (0, 0)) (by (with_reducible repeat (first | refine blk_drewN ?_ _ | refine blk_drew ?_ | refine blk_alloc ?_ _)); exact (Q_BK266 h0_ h1_)) (Q_NB266_0 h0_) (by simp)))
          clear BK246
          clear HK
          clear HB
          clear HI0
          have BK246 := n0_
          have HK := n1_
          have HB := n2_
          have HI0 := n3_
          clear n0_ n1_ n2_ n3_
          (try clear hb)
          (try clear hb2)
          (try clear hk)
          (try clear hi)
          refine hK.out _ _ ⟨v250, adz_v250, gb266, m8_, m17_, (by rw [ha.out]; exact putSel_upk 0 hb_ rfl rfl rfl), (by (with_reducible repeat (first | refine blk_drewN ?_ _ | refine blk_drew ?_ | refine blk_alloc ?_ _)); exact BK246.out), fun h0_ => absurd ((up_self b 1).symm.trans h0_) (by decide), (by repeat (first | (with_reducible first | exact HK.out | apply KeepBut.set_ | apply keep_drewN | apply keep_drew | apply keep_alloc | refine keep_far ?_ GW246.out _) | exact HK.out)), (by repeat (first | (with_reducible first | exact HB.out | apply below_alloc | apply pw_below_drewN | apply below_drew1 | refine below_set ?_ (IsS81.ge HI0.out) | refine below_set ?_ GE246.out) | exact HB.out)), fun _ _ => (by repeat (first | (with_reducible first | exact HI0.out | apply IsS81.alloc | apply IsS81.drewN | apply IsS81.drew | apply IsS81.set_1 | refine IsS81.far ?_ NB0_246.out _) | exact HI0.out)), z_HO251, Q_HA_HO251, fun h0_ _ => absurd ((hoff 7 (by kernel_rfl)).symm.trans h0_) (by decide), fun h0_ _ => absurd ((hoff 11 (by kernel_rfl)).symm.trans h0_) (by decide), fun h0_ => absurd ((hoff 13 (by kernel_rfl)).symm.trans h0_) (by decide), z_BK266, Q_GW266, Q_GE266, Q_NB0_266, Q_NB266_0, Q_NB246_266, Q_NB266_246, fun h0_ => absurd ((hoff 18 (by kernel_rfl)).symm.trans h0_) (by decide), fun h0_ => absurd ((hoff 8 (by kernel_rfl)).symm.trans h0_) (by decide), Q_X17_⟩
        refine steps_cons ?_ ?_
        · rintro b a w' ⟨v250, adz_v250, gb266, m8_, m17_, ha, Q_BK246, Q_HI0, Q_HK, Q_HB, Q_HI0_e1, Q_HO251, Q_HA_HO251, Q_HI0_e7, Q_HI0_e11, Q_HI0_e13, Q_BK266, Q_GW266, Q_GE266, Q_NB0_266, Q_NB266_0, Q_NB246_266, Q_NB266_246, Q_BK266_e18, Q_X8_, Q_X17_⟩ hb_ hon hoff
          refine ⟨_, rfl, fun K hK => ?_⟩
          replace ha := Aside0.mk ha
          have BK246 := Aside0.mk Q_BK246
          have HK := Aside0.mk Q_HK
          have HB := Aside0.mk Q_HB
          refine value_ (w1 := w') (v := .agg #[.int .i64 0, .int .i64 5]) (by rfl) rfl ?_ ?_
          · go_simp
            (try simp only [i64_w])
            try rfl
          refine hK.out _ _ ⟨v250, adz_v250, gb266, m8_, m17_, (by rw [ha.out]; exact putSel_upk 1 hb_ rfl rfl rfl), Q_BK246, Q_HI0, Q_HK, Q_HB, Q_HI0_e1, fun h0_ => absurd ((hoff 5 (by kernel_rfl)).symm.trans h0_) (by decide), fun h0_ => absurd ((hoff 5 (by kernel_rfl)).symm.trans h0_) (by decide), Q_HI0_e7, Q_HI0_e11, Q_HI0_e13, Q_BK266, Q_GW266, Q_GE266, Q_NB0_266, Q_NB266_0, Q_NB246_266, Q_NB266_246, fun h0_ => absurd ((hoff 18 (by kernel_rfl)).symm.trans h0_) (by decide), fun h0_ => absurd ((hoff 8 (by kernel_rfl)).symm.trans h0_) (by decide), Q_X17_⟩
        refine steps_cons ?_ ?_
        · rintro b a w' ⟨v250, adz_v250, gb266, m8_, m17_, ha, Q_BK246, Q_HI0, Q_HK, Q_HB, Q_HI0_e1, Q_HO251, Q_HA_HO251, Q_HI0_e7, Q_HI0_e11, Q_HI0_e13, Q_BK266, Q_GW266, Q_GE266, Q_NB0_266, Q_NB266_0, Q_NB246_266, Q_NB266_246, Q_BK266_e18, Q_X8_, Q_X17_⟩ hb_ hon hoff
          refine ⟨_, rfl, fun K hK => ?_⟩
          replace ha := Aside0.mk ha
          have BK246 := Aside0.mk Q_BK246
          have HK := Aside0.mk Q_HK
          have HB := Aside0.mk Q_HB
          refine value_ (w1 := w') (v := .agg #[.int .i64 5, .int .i64 10]) (by rfl) rfl ?_ ?_
          · go_simp
            (try simp only [i64_w])
            try rfl
          refine hK.out _ _ ⟨v250, adz_v250, gb266, m8_, m17_, (by rw [ha.out]; exact putSel_upk 2 hb_ rfl rfl rfl), Q_BK246, Q_HI0, Q_HK, Q_HB, Q_HI0_e1, fun h0_ => absurd ((hoff 5 (by kernel_rfl)).symm.trans h0_) (by decide), fun h0_ => absurd ((hoff 5 (by kernel_rfl)).symm.trans h0_) (by decide), Q_HI0_e7, Q_HI0_e11, Q_HI0_e13, Q_BK266, Q_GW266, Q_GE266, Q_NB0_266, Q_NB266_0, Q_NB246_266, Q_NB266_246, fun h0_ => absurd ((hoff 18 (by kernel_rfl)).symm.trans h0_) (by decide), fun h0_ => absurd ((hoff 8 (by kernel_rfl)).symm.trans h0_) (by decide), Q_X17_⟩
        refine steps_cons ?_ ?_
        · rintro b a w' ⟨v250, adz_v250, gb266, m8_, m17_, ha, Q_BK246, Q_HI0, Q_HK, Q_HB, Q_HI0_e1, Q_HO251, Q_HA_HO251, Q_HI0_e7, Q_HI0_e11, Q_HI0_e13, Q_BK266, Q_GW266, Q_GE266, Q_NB0_266, Q_NB266_0, Q_NB246_266, Q_NB266_246, Q_BK266_e18, Q_X8_, Q_X17_⟩ hb_ hon hoff
          refine ⟨_, rfl, fun K hK => ?_⟩
          replace ha := Aside0.mk ha
          have BK246 := Aside0.mk Q_BK246
          have HK := Aside0.mk Q_HK
          have HB := Aside0.mk Q_HB
          refine value_ (w1 := w') (v := .agg #[.int .i64 3, .int .i64 12]) (by rfl) rfl ?_ ?_
          · go_simp
            (try simp only [i64_w])
            try rfl
          refine hK.out _ _ ⟨v250, adz_v250, gb266, m8_, m17_, (by rw [ha.out]; exact putSel_upk 3 hb_ rfl rfl rfl), Q_BK246, Q_HI0, Q_HK, Q_HB, Q_HI0_e1, fun h0_ => absurd ((hoff 5 (by kernel_rfl)).symm.trans h0_) (by decide), fun h0_ => absurd ((hoff 5 (by kernel_rfl)).symm.trans h0_) (by decide), Q_HI0_e7, Q_HI0_e11, Q_HI0_e13, Q_BK266, Q_GW266, Q_GE266, Q_NB0_266, Q_NB266_0, Q_NB246_266, Q_NB266_246, fun h0_ => absurd ((hoff 18 (by kernel_rfl)).symm.trans h0_) (by decide), fun h0_ => absurd ((hoff 8 (by kernel_rfl)).symm.trans h0_) (by decide), Q_X17_⟩
        refine steps_cons ?_ ?_
        · rintro b a w' ⟨v250, adz_v250, gb266, m8_, m17_, ha, Q_BK246, Q_HI0, Q_HK, Q_HB, Q_HI0_e1, Q_HO251, Q_HA_HO251, Q_HI0_e7, Q_HI0_e11, Q_HI0_e13, Q_BK266, Q_GW266, Q_GE266, Q_NB0_266, Q_NB266_0, Q_NB246_266, Q_NB266_246, Q_BK266_e18, Q_X8_, Q_X17_⟩ hb_ hon hoff
          refine ⟨_, rfl, fun K hK => ?_⟩
          have e8 : a.tmps[8]? = some (.agg #[.int .i64 0, .int .i64 5]) := by rw [ha]; exact putSel_on (e := (2, 8, .agg #[.int .i64 0, .int .i64 5])) 1 rfl rfl (hon 2 (by kernel_rfl)) rfl
          have e9 : a.tmps[9]? = some (.agg #[.int .i64 5, .int .i64 10]) := by rw [ha]; exact putSel_on (e := (3, 9, .agg #[.int .i64 5, .int .i64 10])) 2 rfl rfl (hon 3 (by kernel_rfl)) rfl
          have e10 : a.tmps[10]? = some (.agg #[.int .i64 3, .int .i64 12]) := by rw [ha]; exact putSel_on (e := (4, 10, .agg #[.int .i64 3, .int .i64 12])) 3 rfl rfl (hon 4 (by kernel_rfl)) rfl
          replace ha := Aside0.mk ha
          have BK246 := Aside0.mk Q_BK246
          have HK := Aside0.mk Q_HK
          have HB := Aside0.mk Q_HB
          refine Kd.R_lit_step k26 _ 26 ?hg (N := 11) ?hd (xs := ([(⟨0, 5⟩ : S26), (⟨5, 10⟩ : S26), (⟨3, 12⟩ : S26)] : List (S26))) (inner := [.int .i64 0, .int .i64 5, .int .i64 5, .int .i64 10, .int .i64 3, .int .i64 12]) (ok := fun _ => True) (okp := fun _ => True) ?hr ?hp (fun _ hk => hk) trivial (Below.refl _ _) (Nat.le_refl _) (by simp) ?_; (case hd => rfl); (case hg => rfl); (case hr => first | (go_simp; done) | (go_simp; rfl)); (case hp => exact (Reps.c2 (show Kd.M k26 _ _ _ (⟨0, 5⟩ : S26) [.int .i64 0, .int .i64 5] from (k26_mkM _ _ _ (⟨0, 5⟩ : S26) )) (Reps.c2 (show Kd.M k26 _ _ _ (⟨5, 10⟩ : S26) [.int .i64 5, .int .i64 10] from (k26_mkM _ _ _ (⟨5, 10⟩ : S26) )) (Reps.c2 (show Kd.M k26 _ _ _ (⟨3, 12⟩ : S26) [.int .i64 3, .int .i64 12] from (k26_mkM _ _ _ (⟨3, 12⟩ : S26) )) (Reps.none _ _)))))
          intro v250 w14 ho15 hb hg_ hnew_
          clear hg_ hnew_
          (first | rw [← Ny249.out] at ho15 | (simp only [Int.reduceToNat] at ho15; rw [← Ny249.out] at ho15))
          have n0_ := Aside0.mk (Kd.R_lower ho15 (keep_size (w := w) (g := g) (row := none) (by repeat (first | (with_reducible first | exact HK.out | apply KeepBut.set_ | apply keep_drewN | apply keep_drew | apply keep_alloc | refine keep_far ?_ GW246.out _) | exact HK.out))))
          have n2_ := Aside0.mk (blk_below (g := gb246) (o := .cells #[.int .i64 0, .int .i64 0, .int .i64 0, .int .i64 0, .int .i64 0, .int .i64 0, .int .i64 0, .int .i64 0, .int .i64 0] 89 (0, 0)) (by (with_reducible repeat (first | refine blk_drewN ?_ _ | refine blk_drew ?_ | refine blk_alloc ?_ _)); exact BK246.out) hb)
          have n3_ := Aside0.mk (KeepBut.trans (by repeat (first | (with_reducible first | exact HK.out | apply KeepBut.set_ | apply keep_drewN | apply keep_drew | apply keep_alloc | refine keep_far ?_ GW246.out _) | exact HK.out)) (KeepBut.of_below hb g none) (.inl rfl))
          have n4_ := Aside0.mk (below_step (by repeat (first | (with_reducible first | exact HB.out | apply below_alloc | apply pw_below_drewN | apply below_drew1 | refine below_set ?_ GE246.out) | exact HB.out)) hb)
          have z_HI0 := fun (h0_ : b 1 = false) => (show IsS81 w0 w14 g s0_0 s0_1 from by first | exact (IsS81.below (by repeat (first | (with_reducible first | exact (Q_HI0 h0_) | apply IsS81.alloc | apply IsS81.drewN | apply IsS81.drew | apply IsS81.set_1 | refine IsS81.far ?_ NB0_246.out _) | exact (Q_HI0 h0_))) hb))
          have z_HI0_e1 := fun (h0_ : b 1 = true) (h1_ : b 7 = false) => (show IsS81 w0 w14 g s0_0 t248 from by first | exact (IsS81.below (by repeat (first | (with_reducible first | exact (Q_HI0_e1 h0_ h1_) | apply IsS81.alloc | apply IsS81.drewN | apply IsS81.drew | apply IsS81.set_1 | refine IsS81.far ?_ NB0_246.out _) | exact (Q_HI0_e1 h0_ h1_))) hb))
          have z_HI0_e7 := fun (h0_ : b 7 = true) (h1_ : b 11 = false) => (show IsS81 w0 w14 g s0_0 t253 from by first | exact (IsS81.below (by repeat (first | (with_reducible first | exact (Q_HI0_e7 h0_ h1_) | apply IsS81.alloc | apply IsS81.drewN | apply IsS81.drew | apply IsS81.set_1 | refine IsS81.far ?_ NB0_246.out _) | exact (Q_HI0_e7 h0_ h1_))) hb))
          have z_HI0_e11 := fun (h0_ : b 11 = true) (h1_ : b 13 = false) => (show IsS81 w0 w14 g s0_0 t259 from by first | exact (IsS81.below (by repeat (first | (with_reducible first | exact (Q_HI0_e11 h0_ h1_) | apply IsS81.alloc | apply IsS81.drewN | apply IsS81.drew | apply IsS81.set_1 | refine IsS81.far ?_ NB0_246.out _) | exact (Q_HI0_e11 h0_ h1_))) hb))
          have z_HI0_e13 := fun (h0_ : b 13 = true) => (show IsS81 w0 w14 g s0_0 t261 from by first | exact (IsS81.below (by repeat (first | (with_reducible first | exact (Q_HI0_e13 h0_) | apply IsS81.alloc | apply IsS81.drewN | apply IsS81.drew | apply IsS81.set_1 | refine IsS81.far ?_ NB0_246.out _) | exact (Q_HI0_e13 h0_))) hb))
          have z_BK266 := fun (h0_ : b 17 = true) (h1_ : b 18 = false) => (show w14.heap[gb266]? = some (.cells #[.int .i64 0, .int .i64 0, .int .i64 0, .int .i64 0, .int .i64 0, .int .i64 0, .int .i64 0, .int .i64 0, .int .i64 0] 89 (0, 0)) from by first | exact (blk_below (g := gb266) (o := .cells #[.int .i64 0, .int .i64 0, .int .i64 0, .int .i64 0, .int .i64 0, .int .i64 0, .int .i64 0, .int .i64 0, .int .i64 0] 89 (0, 0)) (by (with_reducible repeat (first | refine blk_drewN ?_ _ | refine blk_drew ?_ | refine blk_alloc ?_ _)); exact (Q_BK266 h0_ h1_)) hb))
          clear BK246
          clear HK
          clear HB
          have HO251 := n0_
          have BK246 := n2_
          have HK := n3_
          have HB := n4_
          clear n0_ n2_ n3_ n4_
          clear hb ho15
          obtain ⟨Ao16, co16, eo16⟩ := Kd.R_slice HO251.out
          subst eo16
          obtain ⟨ado16, fo16, _⟩ := at_T26 (Kd.R_reads' HO251.out).2.2 0 (by decide) (by rw [Ny249.out]; simp)
          cases fo16
          refine hK.out _ _ ⟨.slice (some ado16) y249.length co16, ado16, gb266, m8_, m17_, (by rw [ha.out]; exact putSel_upk 4 hb_ rfl rfl rfl), (by (with_reducible repeat (first | refine blk_drewN ?_ _ | refine blk_drew ?_ | refine blk_alloc ?_ _)); exact BK246.out), z_HI0, (by repeat (first | (with_reducible first | exact HK.out | apply KeepBut.set_ | apply keep_drewN | apply keep_drew | apply keep_alloc | refine keep_far ?_ GW246.out _) | exact HK.out)), (by repeat (first | (with_reducible first | exact HB.out | apply below_alloc | apply pw_below_drewN | apply below_drew1 | refine below_set ?_ GE246.out) | exact HB.out)), z_HI0_e1, fun _ => (by (with_reducible repeat (first | apply Kd.R_alloc | apply Kd.R_drewN | apply Kd.R_drew)); exact HO251.out), fun _ => ⟨_, rfl⟩, z_HI0_e7, z_HI0_e11, z_HI0_e13, z_BK266, Q_GW266, Q_GE266, Q_NB0_266, Q_NB266_0, Q_NB246_266, Q_NB266_246, fun h0_ => absurd ((hoff 18 (by kernel_rfl)).symm.trans h0_) (by decide), fun h0_ => absurd ((hoff 8 (by kernel_rfl)).symm.trans h0_) (by decide), Q_X17_⟩
        refine steps_cons ?_ ?_
        · rintro b a w' ⟨v250, adz_v250, gb266, m8_, m17_, ha, Q_BK246, Q_HI0, Q_HK, Q_HB, Q_HI0_e1, Q_HO251, Q_HA_HO251, Q_HI0_e7, Q_HI0_e11, Q_HI0_e13, Q_BK266, Q_GW266, Q_GE266, Q_NB0_266, Q_NB266_0, Q_NB246_266, Q_NB266_246, Q_BK266_e18, Q_X8_, Q_X17_⟩ hb_ hon hoff
          refine ⟨_, rfl, fun K hK => ?_⟩
          have e12 : a.tmps[12]? = some (.pointer (some ⟨g, 0, none⟩)) := by rw [ha]; exact (putSel_off rfl).trans rfl
          replace ha := Aside0.mk ha
          have BK246 := Aside0.mk Q_BK246
          have HK := Aside0.mk Q_HK
          have HB := Aside0.mk Q_HB
          have HI0 := Aside0.mk (Q_HI0_e1 (hon 1 (by kernel_rfl)) hb_)
          refine goes_ Try.func53 (by kernel_rfl) rfl #[.pointer (some ⟨g, 0, none⟩), .int .i64 3] (by rfl) rfl rfl (by first | (simp only [List.map_toArray, List.map_cons, List.map_nil, Act.eval, Array.getD_eq_getD_getElem?, Option.getD_some, e12]; done) | (simp only [List.map_toArray, List.map_cons, List.map_nil, Act.eval, Array.getD_eq_getD_getElem?, Option.getD_some, e12]; rfl)) ?_
          with_reducible refine (spec_l20Rd_pick.calls k g s0_0 t248 3 t252 t253 w0 _ ?side1 ?side2 A4.out).mono ?_
          (case side1 => repeat (first | (with_reducible first | exact HI0.out | apply IsS81.alloc | apply IsS81.drewN | apply IsS81.drew | apply IsS81.set_1 | refine IsS81.far ?_ NB0_246.out _) | exact HI0.out))
          (case side2 => repeat (first | (with_reducible first | exact HB.out | apply below_alloc | apply pw_below_drewN | apply below_drew1 | refine below_set ?_ (IsS81.ge HI0.out) | refine below_set ?_ GE246.out) | exact HB.out))
          rintro e w16 ⟨rfl, hi, hb, hk⟩
          refine ⟨_, rfl, ?_⟩
          have n0_ := Aside0.mk (KeepBut.blk hk (g' := gb246) (o := .cells #[.int .i64 0, .int .i64 0, .int .i64 0, .int .i64 0, .int .i64 0, .int .i64 0, .int .i64 0, .int .i64 0, .int .i64 0] 89 (0, 0)) (by (with_reducible repeat (first | refine blk_drewN ?_ _ | refine blk_drew ?_ | refine blk_alloc ?_ _)); exact BK246.out) NB246_0.out (by simp))
          have n1_ := Aside0.mk (KeepBut.trans (by repeat (first | (with_reducible first | exact HK.out | apply KeepBut.set_ | apply keep_drewN | apply keep_drew | apply keep_alloc | refine keep_far ?_ GW246.out _) | exact HK.out)) hk (.inl rfl))
          have n2_ := Aside0.mk (hb)
          have n3_ := Aside0.mk (hi)
          have z_HO251 := fun (h0_ : b 5 = true) => (show Kd.R k26 26 w16 w.heap.size (fun _ => True) v250 y249 from by first | exact (Kd.R_mono (Kd.R_keep (IsS81.apart (show IsS81 w0 _ g s0_0 t248 from by repeat (first | (with_reducible first | exact HI0.out | apply IsS81.alloc | apply IsS81.drewN | apply IsS81.drew | apply IsS81.set_1 | refine IsS81.far ?_ NB0_246.out _) | exact HI0.out)) (by (with_reducible repeat (first | apply Kd.R_alloc | apply Kd.R_drewN | apply Kd.R_drew)); exact (Q_HO251 h0_)) (by decide)) hk (fun _ h => h.2)) (fun _ h => h.1)) | exact Kd.R_mono (Kd.R_mono (Kd.R_keep (IsS81.apart (show IsS81 w0 _ g s0_0 t248 from by repeat (first | (with_reducible first | exact HI0.out | apply IsS81.alloc | apply IsS81.drewN | apply IsS81.drew | apply IsS81.set_1 | refine IsS81.far ?_ NB0_246.out _) | exact HI0.out)) (by (with_reducible repeat (first | apply Kd.R_alloc | apply Kd.R_drewN | apply Kd.R_drew)); exact (Q_HO251 h0_)) (by decide)) hk (fun _ h => h.2)) (fun _ h => h.1)) (fun _ h_ => by first | trivial | exact h_ | exact h_.1))
          have z_BK266 := fun (h0_ : b 17 = true) (h1_ : b 18 = false) => (show w16.heap[gb266]? = some (.cells #[.int .i64 0, .int .i64 0, .int .i64 0, .int .i64 0, .int .i64 0, .int .i64 0, .int .i64 0, .int .i64 0, .int .i64 0] 89 (0, 0)) from by first | exact (KeepBut.blk hk (g' := gb266) (o := .cells #[.int .i64 0, .int .i64 0, .int .i64 0, .int .i64 0, .int .i64 0, .int .i64 0, .int .i64 0, .int .i64 0, .int .i64 0] 89 (0, 0)) (by (with_reducible repeat (first | refine blk_drewN ?_ _ | refine blk_drew ?_ | refine blk_alloc ?_ _)); exact (Q_BK266 h0_ h1_)) (Q_NB266_0 h0_) (by simp)))
          clear BK246
          clear HK
          clear HB
          clear HI0
          have BK246 := n0_
          have HK := n1_
          have HB := n2_
          have HI0 := n3_
          clear n0_ n1_ n2_ n3_
          (try clear hb)
          (try clear hb2)
          (try clear hk)
          (try clear hi)
          refine hK.out _ _ ⟨v250, adz_v250, gb266, m8_, m17_, (by rw [ha.out]; exact putSel_upk 5 hb_ rfl rfl rfl), (by (with_reducible repeat (first | refine blk_drewN ?_ _ | refine blk_drew ?_ | refine blk_alloc ?_ _)); exact BK246.out), fun h0_ => absurd ((hon 1 (by kernel_rfl)).symm.trans h0_) (by decide), (by repeat (first | (with_reducible first | exact HK.out | apply KeepBut.set_ | apply keep_drewN | apply keep_drew | apply keep_alloc | refine keep_far ?_ GW246.out _) | exact HK.out)), (by repeat (first | (with_reducible first | exact HB.out | apply below_alloc | apply pw_below_drewN | apply below_drew1 | refine below_set ?_ (IsS81.ge HI0.out) | refine below_set ?_ GE246.out) | exact HB.out)), fun _ h1_ => absurd ((up_self b 7).symm.trans h1_) (by decide), z_HO251, Q_HA_HO251, fun _ _ => (by repeat (first | (with_reducible first | exact HI0.out | apply IsS81.alloc | apply IsS81.drewN | apply IsS81.drew | apply IsS81.set_1 | refine IsS81.far ?_ NB0_246.out _) | exact HI0.out)), fun h0_ _ => absurd ((hoff 11 (by kernel_rfl)).symm.trans h0_) (by decide), fun h0_ => absurd ((hoff 13 (by kernel_rfl)).symm.trans h0_) (by decide), z_BK266, Q_GW266, Q_GE266, Q_NB0_266, Q_NB266_0, Q_NB246_266, Q_NB266_246, fun h0_ => absurd ((hoff 18 (by kernel_rfl)).symm.trans h0_) (by decide), fun h0_ => absurd ((hoff 8 (by kernel_rfl)).symm.trans h0_) (by decide), Q_X17_⟩
        refine steps_cons ?_ ?_
        · rintro b a w' ⟨v250, adz_v250, gb266, m8_, m17_, ha, Q_BK246, Q_HI0, Q_HK, Q_HB, Q_HI0_e1, Q_HO251, Q_HA_HO251, Q_HI0_e7, Q_HI0_e11, Q_HI0_e13, Q_BK266, Q_GW266, Q_GE266, Q_NB0_266, Q_NB266_0, Q_NB246_266, Q_NB266_246, Q_BK266_e18, Q_X8_, Q_X17_⟩ hb_ hon hoff
          refine ⟨_, rfl, fun K hK => ?_⟩
          have e11 : a.tmps[11]? = some (v250) := by rw [ha]; exact putSel_on (e := (5, 11, v250)) 4 rfl rfl (hon 5 (by kernel_rfl)) rfl
          have e13 : a.tmps[13]? = some (.int .i64 t252) := by rw [ha]; exact putSel_on (e := (7, 13, .int .i64 t252)) 5 rfl rfl (hon 7 (by kernel_rfl)) rfl
          replace ha := Aside0.mk ha
          have BK246 := Aside0.mk Q_BK246
          have HK := Aside0.mk Q_HK
          have HB := Aside0.mk Q_HB
          have HO251 := Aside0.mk (Q_HO251 (hon 5 (by kernel_rfl)))
          have HA_HO251 := Aside0.mk (Q_HA_HO251 (hon 5 (by kernel_rfl)))
          obtain ⟨c_, hv_⟩ := HA_HO251.out
          rw [hv_] at e11
          refine value_ (w1 := w') (v := .pointer (some (adz_v250.add ((t252).toNat * 2)))) (by rfl) rfl ?_ ?_
          · go_simp
            (try simp only [i64_w])
            try rfl
          refine hK.out _ _ ⟨v250, adz_v250, gb266, (.pointer (some (adz_v250.add ((t252).toNat * 2)))), m17_, (by rw [ha.out]; exact putSel_upk 6 hb_ rfl rfl rfl), Q_BK246, fun h0_ => absurd ((hon 1 (by kernel_rfl)).symm.trans h0_) (by decide), Q_HK, Q_HB, fun _ h1_ => absurd ((hon 7 (by kernel_rfl)).symm.trans h1_) (by decide), Q_HO251, Q_HA_HO251, Q_HI0_e7, Q_HI0_e11, Q_HI0_e13, Q_BK266, Q_GW266, Q_GE266, Q_NB0_266, Q_NB266_0, Q_NB246_266, Q_NB266_246, fun h0_ => absurd ((hoff 18 (by kernel_rfl)).symm.trans h0_) (by decide), fun _ => rfl, Q_X17_⟩
        refine steps_cons ?_ ?_
        · rintro b a w' ⟨v250, adz_v250, gb266, m8_, m17_, ha, Q_BK246, Q_HI0, Q_HK, Q_HB, Q_HI0_e1, Q_HO251, Q_HA_HO251, Q_HI0_e7, Q_HI0_e11, Q_HI0_e13, Q_BK266, Q_GW266, Q_GE266, Q_NB0_266, Q_NB266_0, Q_NB246_266, Q_NB266_246, Q_BK266_e18, Q_X8_, Q_X17_⟩ hb_ hon hoff
          refine ⟨_, rfl, fun K hK => ?_⟩
          have e14 : a.tmps[14]? = some (m8_) := by rw [ha]; exact putSel_on (e := (8, 14, m8_)) 6 rfl rfl (hon 8 (by kernel_rfl)) rfl
          rw [Q_X8_ (hon 8 (by kernel_rfl))] at e14
          replace ha := Aside0.mk ha
          have BK246 := Aside0.mk Q_BK246
          have HK := Aside0.mk Q_HK
          have HB := Aside0.mk Q_HB
          have HO251 := Aside0.mk (Q_HO251 (hon 5 (by kernel_rfl)))
          have HA_HO251 := Aside0.mk (Q_HA_HO251 (hon 5 (by kernel_rfl)))
          obtain ⟨c_, hv_⟩ := HA_HO251.out
          have hF_ := HO251.out
          rw [hv_] at hF_
          obtain ⟨ad_, ea_, hx_, hx1_⟩ := at_T26 (Kd.R_reads' hF_).2.2 t252 (of_eq_true pi254) (of_eq_true qi254)
          cases ea_
          refine value_ (w1 := w') (v := .agg #[.int .i64 ((rd_T26 y249 t252).f0), .int .i64 ((rd_T26 y249 t252).f1)]) (by rfl) rfl ?_ ?_
          · go_simp
            (try simp only [i64_w])
            try rfl
          refine hK.out _ _ ⟨v250, adz_v250, gb266, m8_, m17_, (by rw [ha.out]; exact putSel_upk 7 hb_ rfl rfl rfl), Q_BK246, fun h0_ => absurd ((hon 1 (by kernel_rfl)).symm.trans h0_) (by decide), Q_HK, Q_HB, fun _ h1_ => absurd ((hon 7 (by kernel_rfl)).symm.trans h1_) (by decide), Q_HO251, Q_HA_HO251, Q_HI0_e7, Q_HI0_e11, Q_HI0_e13, Q_BK266, Q_GW266, Q_GE266, Q_NB0_266, Q_NB266_0, Q_NB246_266, Q_NB266_246, fun h0_ => absurd ((hoff 18 (by kernel_rfl)).symm.trans h0_) (by decide), Q_X8_, Q_X17_⟩
        refine steps_cons ?_ ?_
        · rintro b a w' ⟨v250, adz_v250, gb266, m8_, m17_, ha, Q_BK246, Q_HI0, Q_HK, Q_HB, Q_HI0_e1, Q_HO251, Q_HA_HO251, Q_HI0_e7, Q_HI0_e11, Q_HI0_e13, Q_BK266, Q_GW266, Q_GE266, Q_NB0_266, Q_NB266_0, Q_NB246_266, Q_NB266_246, Q_BK266_e18, Q_X8_, Q_X17_⟩ hb_ hon hoff
          refine ⟨_, rfl, fun K hK => ?_⟩
          have e16 : a.tmps[16]? = some (.pointer (some ⟨g, 0, none⟩)) := by rw [ha]; exact (putSel_off rfl).trans rfl
          replace ha := Aside0.mk ha
          have BK246 := Aside0.mk Q_BK246
          have HK := Aside0.mk Q_HK
          have HB := Aside0.mk Q_HB
          have HI0 := Aside0.mk (Q_HI0_e7 (hon 7 (by kernel_rfl)) hb_)
          refine goes_ Try.func54 (by kernel_rfl) rfl #[.pointer (some ⟨g, 0, none⟩), .int .i64 99] (by rfl) rfl rfl (by first | (simp only [List.map_toArray, List.map_cons, List.map_nil, Act.eval, Array.getD_eq_getD_getElem?, Option.getD_some, e16]; done) | (simp only [List.map_toArray, List.map_cons, List.map_nil, Act.eval, Array.getD_eq_getD_getElem?, Option.getD_some, e16]; rfl)) ?_
          with_reducible refine (spec_l20Agg.calls k g s0_0 t253 99 t255 t256 t257 t258 t259 w0 _ ?side1 ?side2 A7.out).mono ?_
          (case side1 => repeat (first | (with_reducible first | exact HI0.out | apply IsS81.alloc | apply IsS81.drewN | apply IsS81.drew | apply IsS81.set_1 | refine IsS81.far ?_ NB0_246.out _) | exact HI0.out))
          (case side2 => repeat (first | (with_reducible first | exact HB.out | apply below_alloc | apply pw_below_drewN | apply below_drew1 | refine below_set ?_ (IsS81.ge HI0.out) | refine below_set ?_ GE246.out) | exact HB.out))
          rintro e w17 ⟨rfl, hi, hb, hk⟩
          refine ⟨_, rfl, ?_⟩
          have n0_ := Aside0.mk (KeepBut.blk hk (g' := gb246) (o := .cells #[.int .i64 0, .int .i64 0, .int .i64 0, .int .i64 0, .int .i64 0, .int .i64 0, .int .i64 0, .int .i64 0, .int .i64 0] 89 (0, 0)) (by (with_reducible repeat (first | refine blk_drewN ?_ _ | refine blk_drew ?_ | refine blk_alloc ?_ _)); exact BK246.out) NB246_0.out (by simp))
          have n1_ := Aside0.mk (KeepBut.trans (by repeat (first | (with_reducible first | exact HK.out | apply KeepBut.set_ | apply keep_drewN | apply keep_drew | apply keep_alloc | refine keep_far ?_ GW246.out _) | exact HK.out)) hk (.inl rfl))
          have n2_ := Aside0.mk (hb)
          have n3_ := Aside0.mk (hi)
          have z_HO251 := fun (h0_ : b 5 = true) => (show Kd.R k26 26 w17 w.heap.size (fun _ => True) v250 y249 from by first | exact (Kd.R_mono (Kd.R_keep (IsS81.apart (show IsS81 w0 _ g s0_0 t253 from by repeat (first | (with_reducible first | exact HI0.out | apply IsS81.alloc | apply IsS81.drewN | apply IsS81.drew | apply IsS81.set_1 | refine IsS81.far ?_ NB0_246.out _) | exact HI0.out)) (by (with_reducible repeat (first | apply Kd.R_alloc | apply Kd.R_drewN | apply Kd.R_drew)); exact (Q_HO251 h0_)) (by decide)) hk (fun _ h => h.2)) (fun _ h => h.1)) | exact Kd.R_mono (Kd.R_mono (Kd.R_keep (IsS81.apart (show IsS81 w0 _ g s0_0 t253 from by repeat (first | (with_reducible first | exact HI0.out | apply IsS81.alloc | apply IsS81.drewN | apply IsS81.drew | apply IsS81.set_1 | refine IsS81.far ?_ NB0_246.out _) | exact HI0.out)) (by (with_reducible repeat (first | apply Kd.R_alloc | apply Kd.R_drewN | apply Kd.R_drew)); exact (Q_HO251 h0_)) (by decide)) hk (fun _ h => h.2)) (fun _ h => h.1)) (fun _ h_ => by first | trivial | exact h_ | exact h_.1))
          have z_BK266 := fun (h0_ : b 17 = true) (h1_ : b 18 = false) => (show w17.heap[gb266]? = some (.cells #[.int .i64 0, .int .i64 0, .int .i64 0, .int .i64 0, .int .i64 0, .int .i64 0, .int .i64 0, .int .i64 0, .int .i64 0] 89 (0, 0)) from by first | exact (KeepBut.blk hk (g' := gb266) (o := .cells #[.int .i64 0, .int .i64 0, .int .i64 0, .int .i64 0, .int .i64 0, .int .i64 0, .int .i64 0, .int .i64 0, .int .i64 0] 89 (0, 0)) (by (with_reducible repeat (first | refine blk_drewN ?_ _ | refine blk_drew ?_ | refine blk_alloc ?_ _)); exact (Q_BK266 h0_ h1_)) (Q_NB266_0 h0_) (by simp)))
          clear BK246
          clear HK
          clear HB
          clear HI0
          have BK246 := n0_
          have HK := n1_
          have HB := n2_
          have HI0 := n3_
          clear n0_ n1_ n2_ n3_
          (try clear hb)
          (try clear hb2)
          (try clear hk)
          (try clear hi)
          refine hK.out _ _ ⟨v250, adz_v250, gb266, m8_, m17_, (by rw [ha.out]; exact putSel_upk 8 hb_ rfl rfl rfl), (by (with_reducible repeat (first | refine blk_drewN ?_ _ | refine blk_drew ?_ | refine blk_alloc ?_ _)); exact BK246.out), fun h0_ => absurd ((hon 1 (by kernel_rfl)).symm.trans h0_) (by decide), (by repeat (first | (with_reducible first | exact HK.out | apply KeepBut.set_ | apply keep_drewN | apply keep_drew | apply keep_alloc | refine keep_far ?_ GW246.out _) | exact HK.out)), (by repeat (first | (with_reducible first | exact HB.out | apply below_alloc | apply pw_below_drewN | apply below_drew1 | refine below_set ?_ (IsS81.ge HI0.out) | refine below_set ?_ GE246.out) | exact HB.out)), fun _ h1_ => absurd ((hon 7 (by kernel_rfl)).symm.trans h1_) (by decide), z_HO251, Q_HA_HO251, fun _ h1_ => absurd ((up_self b 11).symm.trans h1_) (by decide), fun _ _ => (by repeat (first | (with_reducible first | exact HI0.out | apply IsS81.alloc | apply IsS81.drewN | apply IsS81.drew | apply IsS81.set_1 | refine IsS81.far ?_ NB0_246.out _) | exact HI0.out)), fun h0_ => absurd ((hoff 13 (by kernel_rfl)).symm.trans h0_) (by decide), z_BK266, Q_GW266, Q_GE266, Q_NB0_266, Q_NB266_0, Q_NB246_266, Q_NB266_246, fun h0_ => absurd ((hoff 18 (by kernel_rfl)).symm.trans h0_) (by decide), Q_X8_, Q_X17_⟩
        refine steps_cons ?_ ?_
        · rintro b a w' ⟨v250, adz_v250, gb266, m8_, m17_, ha, Q_BK246, Q_HI0, Q_HK, Q_HB, Q_HI0_e1, Q_HO251, Q_HA_HO251, Q_HI0_e7, Q_HI0_e11, Q_HI0_e13, Q_BK266, Q_GW266, Q_GE266, Q_NB0_266, Q_NB266_0, Q_NB246_266, Q_NB266_246, Q_BK266_e18, Q_X8_, Q_X17_⟩ hb_ hon hoff
          refine ⟨_, rfl, fun K hK => ?_⟩
          have e18 : a.tmps[18]? = some (.pointer (some ⟨g, 0, none⟩)) := by rw [ha]; exact (putSel_off rfl).trans rfl
          replace ha := Aside0.mk ha
          have BK246 := Aside0.mk Q_BK246
          have HK := Aside0.mk Q_HK
          have HB := Aside0.mk Q_HB
          have HI0 := Aside0.mk (Q_HI0_e11 (hon 11 (by kernel_rfl)) hb_)
          refine goes_ Try.func53 (by kernel_rfl) rfl #[.pointer (some ⟨g, 0, none⟩), .int .i64 19] (by rfl) rfl rfl (by first | (simp only [List.map_toArray, List.map_cons, List.map_nil, Act.eval, Array.getD_eq_getD_getElem?, Option.getD_some, e18]; done) | (simp only [List.map_toArray, List.map_cons, List.map_nil, Act.eval, Array.getD_eq_getD_getElem?, Option.getD_some, e18]; rfl)) ?_
          with_reducible refine (spec_l20Rd_pick.calls k g s0_0 t259 19 t260 t261 w0 _ ?side1 ?side2 A8.out).mono ?_
          (case side1 => repeat (first | (with_reducible first | exact HI0.out | apply IsS81.alloc | apply IsS81.drewN | apply IsS81.drew | apply IsS81.set_1 | refine IsS81.far ?_ NB0_246.out _) | exact HI0.out))
          (case side2 => repeat (first | (with_reducible first | exact HB.out | apply below_alloc | apply pw_below_drewN | apply below_drew1 | refine below_set ?_ (IsS81.ge HI0.out) | refine below_set ?_ GE246.out) | exact HB.out))
          rintro e w18 ⟨rfl, hi, hb, hk⟩
          refine ⟨_, rfl, ?_⟩
          have n0_ := Aside0.mk (KeepBut.blk hk (g' := gb246) (o := .cells #[.int .i64 0, .int .i64 0, .int .i64 0, .int .i64 0, .int .i64 0, .int .i64 0, .int .i64 0, .int .i64 0, .int .i64 0] 89 (0, 0)) (by (with_reducible repeat (first | refine blk_drewN ?_ _ | refine blk_drew ?_ | refine blk_alloc ?_ _)); exact BK246.out) NB246_0.out (by simp))
          have n1_ := Aside0.mk (KeepBut.trans (by repeat (first | (with_reducible first | exact HK.out | apply KeepBut.set_ | apply keep_drewN | apply keep_drew | apply keep_alloc | refine keep_far ?_ GW246.out _) | exact HK.out)) hk (.inl rfl))
          have n2_ := Aside0.mk (hb)
          have n3_ := Aside0.mk (hi)
          have z_HO251 := fun (h0_ : b 5 = true) => (show Kd.R k26 26 w18 w.heap.size (fun _ => True) v250 y249 from by first | exact (Kd.R_mono (Kd.R_keep (IsS81.apart (show IsS81 w0 _ g s0_0 t259 from by repeat (first | (with_reducible first | exact HI0.out | apply IsS81.alloc | apply IsS81.drewN | apply IsS81.drew | apply IsS81.set_1 | refine IsS81.far ?_ NB0_246.out _) | exact HI0.out)) (by (with_reducible repeat (first | apply Kd.R_alloc | apply Kd.R_drewN | apply Kd.R_drew)); exact (Q_HO251 h0_)) (by decide)) hk (fun _ h => h.2)) (fun _ h => h.1)) | exact Kd.R_mono (Kd.R_mono (Kd.R_keep (IsS81.apart (show IsS81 w0 _ g s0_0 t259 from by repeat (first | (with_reducible first | exact HI0.out | apply IsS81.alloc | apply IsS81.drewN | apply IsS81.drew | apply IsS81.set_1 | refine IsS81.far ?_ NB0_246.out _) | exact HI0.out)) (by (with_reducible repeat (first | apply Kd.R_alloc | apply Kd.R_drewN | apply Kd.R_drew)); exact (Q_HO251 h0_)) (by decide)) hk (fun _ h => h.2)) (fun _ h => h.1)) (fun _ h_ => by first | trivial | exact h_ | exact h_.1))
          have z_BK266 := fun (h0_ : b 17 = true) (h1_ : b 18 = false) => (show w18.heap[gb266]? = some (.cells #[.int .i64 0, .int .i64 0, .int .i64 0, .int .i64 0, .int .i64 0, .int .i64 0, .int .i64 0, .int .i64 0, .int .i64 0] 89 (0, 0)) from by first | exact (KeepBut.blk hk (g' := gb266) (o := .cells #[.int .i64 0, .int .i64 0, .int .i64 0, .int .i64 0, .int .i64 0, .int .i64 0, .int .i64 0, .int .i64 0, .int .i64 0] 89 (0, 0)) (by (with_reducible repeat (first | refine blk_drewN ?_ _ | refine blk_drew ?_ | refine blk_alloc ?_ _)); exact (Q_BK266 h0_ h1_)) (Q_NB266_0 h0_) (by simp)))
          clear BK246
          clear HK
          clear HB
          clear HI0
          have BK246 := n0_
          have HK := n1_
          have HB := n2_
          have HI0 := n3_
          clear n0_ n1_ n2_ n3_
          (try clear hb)
          (try clear hb2)
          (try clear hk)
          (try clear hi)
          refine hK.out _ _ ⟨v250, adz_v250, gb266, m8_, m17_, (by rw [ha.out]; exact putSel_upk 9 hb_ rfl rfl rfl), (by (with_reducible repeat (first | refine blk_drewN ?_ _ | refine blk_drew ?_ | refine blk_alloc ?_ _)); exact BK246.out), fun h0_ => absurd ((hon 1 (by kernel_rfl)).symm.trans h0_) (by decide), (by repeat (first | (with_reducible first | exact HK.out | apply KeepBut.set_ | apply keep_drewN | apply keep_drew | apply keep_alloc | refine keep_far ?_ GW246.out _) | exact HK.out)), (by repeat (first | (with_reducible first | exact HB.out | apply below_alloc | apply pw_below_drewN | apply below_drew1 | refine below_set ?_ (IsS81.ge HI0.out) | refine below_set ?_ GE246.out) | exact HB.out)), fun _ h1_ => absurd ((hon 7 (by kernel_rfl)).symm.trans h1_) (by decide), z_HO251, Q_HA_HO251, fun _ h1_ => absurd ((hon 11 (by kernel_rfl)).symm.trans h1_) (by decide), fun _ h1_ => absurd ((up_self b 13).symm.trans h1_) (by decide), fun _ => (by repeat (first | (with_reducible first | exact HI0.out | apply IsS81.alloc | apply IsS81.drewN | apply IsS81.drew | apply IsS81.set_1 | refine IsS81.far ?_ NB0_246.out _) | exact HI0.out)), z_BK266, Q_GW266, Q_GE266, Q_NB0_266, Q_NB266_0, Q_NB246_266, Q_NB266_246, fun h0_ => absurd ((hoff 18 (by kernel_rfl)).symm.trans h0_) (by decide), Q_X8_, Q_X17_⟩
        refine steps_cons ?_ ?_
        · rintro b a w' ⟨v250, adz_v250, gb266, m8_, m17_, ha, Q_BK246, Q_HI0, Q_HK, Q_HB, Q_HI0_e1, Q_HO251, Q_HA_HO251, Q_HI0_e7, Q_HI0_e11, Q_HI0_e13, Q_BK266, Q_GW266, Q_GE266, Q_NB0_266, Q_NB266_0, Q_NB246_266, Q_NB266_246, Q_BK266_e18, Q_X8_, Q_X17_⟩ hb_ hon hoff
          refine ⟨_, rfl, fun K hK => ?_⟩
          have e19 : a.tmps[19]? = some (.int .i64 t260) := by rw [ha]; exact putSel_on (e := (13, 19, .int .i64 t260)) 9 rfl rfl (hon 13 (by kernel_rfl)) rfl
          replace ha := Aside0.mk ha
          have BK246 := Aside0.mk Q_BK246
          have HK := Aside0.mk Q_HK
          have HB := Aside0.mk Q_HB
          have HI0 := Aside0.mk (Q_HI0_e13 (hon 13 (by kernel_rfl)))
          refine value_ (w1 := w') (v := .int .i64 (wrap64 (t260 - 9))) (by rfl) rfl ?_ ?_
          · go_simp
            (try simp only [i64_w])
            try rfl
          refine hK.out _ _ ⟨v250, adz_v250, gb266, m8_, m17_, (by rw [ha.out]; exact putSel_upk 10 hb_ rfl rfl rfl), Q_BK246, fun h0_ => absurd ((hon 1 (by kernel_rfl)).symm.trans h0_) (by decide), Q_HK, Q_HB, fun _ h1_ => absurd ((hon 7 (by kernel_rfl)).symm.trans h1_) (by decide), Q_HO251, Q_HA_HO251, fun _ h1_ => absurd ((hon 11 (by kernel_rfl)).symm.trans h1_) (by decide), fun _ h1_ => absurd ((hon 13 (by kernel_rfl)).symm.trans h1_) (by decide), Q_HI0_e13, Q_BK266, Q_GW266, Q_GE266, Q_NB0_266, Q_NB266_0, Q_NB246_266, Q_NB266_246, fun h0_ => absurd ((hoff 18 (by kernel_rfl)).symm.trans h0_) (by decide), Q_X8_, Q_X17_⟩
        refine steps_cons ?_ ?_
        · rintro b a w' ⟨v250, adz_v250, gb266, m8_, m17_, ha, Q_BK246, Q_HI0, Q_HK, Q_HB, Q_HI0_e1, Q_HO251, Q_HA_HO251, Q_HI0_e7, Q_HI0_e11, Q_HI0_e13, Q_BK266, Q_GW266, Q_GE266, Q_NB0_266, Q_NB266_0, Q_NB246_266, Q_NB266_246, Q_BK266_e18, Q_X8_, Q_X17_⟩ hb_ hon hoff
          refine ⟨_, rfl, fun K hK => ?_⟩
          have e17 : a.tmps[17]? = some (.agg #[.int .i64 t255, .int .i64 t256, .int .i64 t257, .int .i64 t258]) := by rw [ha]; exact putSel_on (e := (11, 17, .agg #[.int .i64 t255, .int .i64 t256, .int .i64 t257, .int .i64 t258])) 8 rfl rfl (hon 11 (by kernel_rfl)) rfl
          have e20 : a.tmps[20]? = some (.int .i64 (wrap64 (t260 - 9))) := by rw [ha]; exact putSel_on (e := (14, 20, .int .i64 (wrap64 (t260 - 9)))) 10 rfl rfl (hon 14 (by kernel_rfl)) rfl
          replace ha := Aside0.mk ha
          have BK246 := Aside0.mk Q_BK246
          have HK := Aside0.mk Q_HK
          have HB := Aside0.mk Q_HB
          have HI0 := Aside0.mk (Q_HI0_e13 (hon 13 (by kernel_rfl)))
          refine goes_ Try.func63 (by kernel_rfl) rfl #[.agg #[.int .i64 t255, .int .i64 t256, .int .i64 t257, .int .i64 t258], .int .i64 (wrap64 (t260 - 9))] (by rfl) rfl rfl (by first | (simp only [List.map_toArray, List.map_cons, List.map_nil, Act.eval, Array.getD_eq_getD_getElem?, Option.getD_some, e17, e20]; done) | (simp only [List.map_toArray, List.map_cons, List.map_nil, Act.eval, Array.getD_eq_getD_getElem?, Option.getD_some, e17, e20]; rfl)) ?_
          with_reducible refine (spec_AggAdd.calls t255 t256 t257 t258 (wrap64 (t260 - 9)) t262 t263 t264 t265 _ A9.out).mono ?_
          rintro e w19 ⟨rfl, hb⟩
          refine ⟨_, rfl, ?_⟩
          have n0_ := Aside0.mk (IsS81.below (by repeat (first | (with_reducible first | exact HI0.out | apply IsS81.alloc | apply IsS81.drewN | apply IsS81.drew | apply IsS81.set_1 | refine IsS81.far ?_ NB0_246.out _) | exact HI0.out)) hb)
          have n1_ := Aside0.mk (blk_below (g := gb246) (o := .cells #[.int .i64 0, .int .i64 0, .int .i64 0, .int .i64 0, .int .i64 0, .int .i64 0, .int .i64 0, .int .i64 0, .int .i64 0] 89 (0, 0)) (by (with_reducible repeat (first | refine blk_drewN ?_ _ | refine blk_drew ?_ | refine blk_alloc ?_ _)); exact BK246.out) hb)
          have n2_ := Aside0.mk (KeepBut.trans (by repeat (first | (with_reducible first | exact HK.out | apply KeepBut.set_ | apply keep_drewN | apply keep_drew | apply keep_alloc | refine keep_far ?_ GW246.out _) | exact HK.out)) (KeepBut.of_below hb g none) (.inl rfl))
          have n3_ := Aside0.mk (below_step (by repeat (first | (with_reducible first | exact HB.out | apply below_alloc | apply pw_below_drewN | apply below_drew1 | refine below_set ?_ (IsS81.ge HI0.out) | refine below_set ?_ GE246.out) | exact HB.out)) hb)
          have z_HO251 := fun (h0_ : b 5 = true) => (show Kd.R k26 26 w19 w.heap.size (fun _ => True) v250 y249 from by first | exact (Kd.R_below (by (with_reducible repeat (first | apply Kd.R_alloc | apply Kd.R_drewN | apply Kd.R_drew)); exact (Q_HO251 h0_)) hb) | exact Kd.R_mono (Kd.R_below (by (with_reducible repeat (first | apply Kd.R_alloc | apply Kd.R_drewN | apply Kd.R_drew)); exact (Q_HO251 h0_)) hb) (fun _ h_ => by first | trivial | exact h_ | exact h_.1))
          have z_BK266 := fun (h0_ : b 17 = true) (h1_ : b 18 = false) => (show w19.heap[gb266]? = some (.cells #[.int .i64 0, .int .i64 0, .int .i64 0, .int .i64 0, .int .i64 0, .int .i64 0, .int .i64 0, .int .i64 0, .int .i64 0] 89 (0, 0)) from by first | exact (blk_below (g := gb266) (o := .cells #[.int .i64 0, .int .i64 0, .int .i64 0, .int .i64 0, .int .i64 0, .int .i64 0, .int .i64 0, .int .i64 0, .int .i64 0] 89 (0, 0)) (by (with_reducible repeat (first | refine blk_drewN ?_ _ | refine blk_drew ?_ | refine blk_alloc ?_ _)); exact (Q_BK266 h0_ h1_)) hb))
          clear HI0
          clear BK246
          clear HK
          clear HB
          have HI0 := n0_
          have BK246 := n1_
          have HK := n2_
          have HB := n3_
          clear n0_ n1_ n2_ n3_
          (try clear hb)
          (try clear hb2)
          (try clear hk)
          (try clear hi)
          refine hK.out _ _ ⟨v250, adz_v250, gb266, m8_, m17_, (by rw [ha.out]; exact putSel_upk 11 hb_ rfl rfl rfl), (by (with_reducible repeat (first | refine blk_drewN ?_ _ | refine blk_drew ?_ | refine blk_alloc ?_ _)); exact BK246.out), fun h0_ => absurd ((hon 1 (by kernel_rfl)).symm.trans h0_) (by decide), (by repeat (first | (with_reducible first | exact HK.out | apply KeepBut.set_ | apply keep_drewN | apply keep_drew | apply keep_alloc | refine keep_far ?_ GW246.out _) | exact HK.out)), (by repeat (first | (with_reducible first | exact HB.out | apply below_alloc | apply pw_below_drewN | apply below_drew1 | refine below_set ?_ (IsS81.ge HI0.out) | refine below_set ?_ GE246.out) | exact HB.out)), fun _ h1_ => absurd ((hon 7 (by kernel_rfl)).symm.trans h1_) (by decide), z_HO251, Q_HA_HO251, fun _ h1_ => absurd ((hon 11 (by kernel_rfl)).symm.trans h1_) (by decide), fun _ h1_ => absurd ((hon 13 (by kernel_rfl)).symm.trans h1_) (by decide), fun _ => (by repeat (first | (with_reducible first | exact HI0.out | apply IsS81.alloc | apply IsS81.drewN | apply IsS81.drew | apply IsS81.set_1 | refine IsS81.far ?_ NB0_246.out _) | exact HI0.out)), z_BK266, Q_GW266, Q_GE266, Q_NB0_266, Q_NB266_0, Q_NB246_266, Q_NB266_246, fun h0_ => absurd ((hoff 18 (by kernel_rfl)).symm.trans h0_) (by decide), Q_X8_, Q_X17_⟩
        refine steps_cons ?_ ?_
        · rintro b a w' ⟨v250, adz_v250, gb266, m8_, m17_, ha, Q_BK246, Q_HI0, Q_HK, Q_HB, Q_HI0_e1, Q_HO251, Q_HA_HO251, Q_HI0_e7, Q_HI0_e11, Q_HI0_e13, Q_BK266, Q_GW266, Q_GE266, Q_NB0_266, Q_NB266_0, Q_NB246_266, Q_NB266_246, Q_BK266_e18, Q_X8_, Q_X17_⟩ hb_ hon hoff
          refine ⟨_, rfl, fun K hK => ?_⟩
          have e7 : a.tmps[7]? = some (.int .i64 t247) := by rw [ha]; exact putSel_on (e := (1, 7, .int .i64 t247)) 0 rfl rfl (hon 1 (by kernel_rfl)) rfl
          have e15 : a.tmps[15]? = some (.agg #[.int .i64 ((rd_T26 y249 t252).f0), .int .i64 ((rd_T26 y249 t252).f1)]) := by rw [ha]; exact putSel_on (e := (9, 15, .agg #[.int .i64 ((rd_T26 y249 t252).f0), .int .i64 ((rd_T26 y249 t252).f1)])) 7 rfl rfl (hon 9 (by kernel_rfl)) rfl
          have e21 : a.tmps[21]? = some (.agg #[.int .i64 t262, .int .i64 t263, .int .i64 t264, .int .i64 t265]) := by rw [ha]; exact putSel_on (e := (15, 21, .agg #[.int .i64 t262, .int .i64 t263, .int .i64 t264, .int .i64 t265])) 11 rfl rfl (hon 15 (by kernel_rfl)) rfl
          replace ha := Aside0.mk ha
          have BK246 := Aside0.mk Q_BK246
          have HK := Aside0.mk Q_HK
          have HB := Aside0.mk Q_HB
          have HO251 := Aside0.mk (Q_HO251 (hon 5 (by kernel_rfl)))
          have HA_HO251 := Aside0.mk (Q_HA_HO251 (hon 5 (by kernel_rfl)))
          have HI0 := Aside0.mk (Q_HI0_e13 (hon 13 (by kernel_rfl)))
          refine value_ (w1 := w') (v := .agg #[.int .i64 t247, .int .i64 ((rd_T26 y249 t252).f0), .int .i64 ((rd_T26 y249 t252).f1), .int .i64 0, .int .i64 1, .int .i64 t262, .int .i64 t263, .int .i64 t264, .int .i64 t265]) (by rfl) rfl ?_ ?_
          · go_simp
            (try simp only [i64_w])
            try rfl
          refine hK.out _ _ ⟨v250, adz_v250, gb266, m8_, m17_, (by rw [ha.out]; exact putSel_upk 12 hb_ rfl rfl rfl), Q_BK246, fun h0_ => absurd ((hon 1 (by kernel_rfl)).symm.trans h0_) (by decide), Q_HK, Q_HB, fun _ h1_ => absurd ((hon 7 (by kernel_rfl)).symm.trans h1_) (by decide), Q_HO251, Q_HA_HO251, fun _ h1_ => absurd ((hon 11 (by kernel_rfl)).symm.trans h1_) (by decide), fun _ h1_ => absurd ((hon 13 (by kernel_rfl)).symm.trans h1_) (by decide), Q_HI0_e13, Q_BK266, Q_GW266, Q_GE266, Q_NB0_266, Q_NB266_0, Q_NB246_266, Q_NB266_246, fun h0_ => absurd ((hoff 18 (by kernel_rfl)).symm.trans h0_) (by decide), Q_X8_, Q_X17_⟩
        refine steps_cons ?_ ?_
        · rintro b a w' ⟨v250, adz_v250, gb266, m8_, m17_, ha, Q_BK246, Q_HI0, Q_HK, Q_HB, Q_HI0_e1, Q_HO251, Q_HA_HO251, Q_HI0_e7, Q_HI0_e11, Q_HI0_e13, Q_BK266, Q_GW266, Q_GE266, Q_NB0_266, Q_NB266_0, Q_NB246_266, Q_NB266_246, Q_BK266_e18, Q_X8_, Q_X17_⟩ hb_ hon hoff
          refine ⟨_, rfl, fun K hK => ?_⟩
          replace ha := Aside0.mk ha
          have BK246 := Aside0.mk Q_BK246
          have HK := Aside0.mk Q_HK
          have HB := Aside0.mk Q_HB
          refine box_step ?hg (N := 5) ?hd (cs := #[.int .i64 0, .int .i64 0, .int .i64 0, .int .i64 0, .int .i64 0, .int .i64 0, .int .i64 0, .int .i64 0, .int .i64 0]) (t := 89) ?hr ?_; (case hd => rfl); (case hg => rfl); (case hr => first | (go_simp; done) | (go_simp; rfl))
          intro gb266 hg w14 hbox hb
          have n1_ := Aside0.mk (blk_below (g := gb246) (o := .cells #[.int .i64 0, .int .i64 0, .int .i64 0, .int .i64 0, .int .i64 0, .int .i64 0, .int .i64 0, .int .i64 0, .int .i64 0] 89 (0, 0)) (by (with_reducible repeat (first | refine blk_drewN ?_ _ | refine blk_drew ?_ | refine blk_alloc ?_ _)); exact BK246.out) hb)
          have n2_ := Aside0.mk (KeepBut.trans (by repeat (first | (with_reducible first | exact HK.out | apply KeepBut.set_ | apply keep_drewN | apply keep_drew | apply keep_alloc | refine keep_far ?_ GW246.out _) | exact HK.out)) (KeepBut.of_below hb g none) (.inl rfl))
          have n3_ := Aside0.mk (below_step (by repeat (first | (with_reducible first | exact HB.out | apply below_alloc | apply pw_below_drewN | apply below_drew1 | refine below_set ?_ GE246.out) | exact HB.out)) hb)
          have n4_ := Aside0.mk (hbox)
          have n5_ := Aside0.mk ((by rw [hg]; exact (keep_size (w := w) (g := g) (row := none) (by repeat (first | (with_reducible first | exact HK.out | apply KeepBut.set_ | apply keep_drewN | apply keep_drew | apply keep_alloc | refine keep_far ?_ GW246.out _) | exact HK.out))) : w.heap.size ≤ gb266))
          have n6_ := Aside0.mk ((Nat.le_trans HW0.out (by rw [hg]; exact (keep_size (w := w) (g := g) (row := none) (by repeat (first | (with_reducible first | exact HK.out | apply KeepBut.set_ | apply keep_drewN | apply keep_drew | apply keep_alloc | refine keep_far ?_ GW246.out _) | exact HK.out))) : w.heap.size ≤ gb266) : w0.heap.size ≤ gb266))
          have n7_ := Aside0.mk ((by rw [hg]; exact Nat.ne_of_lt (blk_lt (g := gb246) (o := .cells #[.int .i64 0, .int .i64 0, .int .i64 0, .int .i64 0, .int .i64 0, .int .i64 0, .int .i64 0, .int .i64 0, .int .i64 0] 89 (0, 0)) (by (with_reducible repeat (first | refine blk_drewN ?_ _ | refine blk_drew ?_ | refine blk_alloc ?_ _)); exact BK246.out)) : gb246 ≠ gb266))
          have n8_ := Aside0.mk ((by rw [hg]; exact Nat.ne_of_gt (blk_lt (g := gb246) (o := .cells #[.int .i64 0, .int .i64 0, .int .i64 0, .int .i64 0, .int .i64 0, .int .i64 0, .int .i64 0, .int .i64 0, .int .i64 0] 89 (0, 0)) (by (with_reducible repeat (first | refine blk_drewN ?_ _ | refine blk_drew ?_ | refine blk_alloc ?_ _)); exact BK246.out)) : gb266 ≠ gb246))
          have n9_ := Aside0.mk ((by rw [hg]; exact Nat.ne_of_lt (Nat.lt_of_lt_of_le HG0.out (keep_size (w := w) (g := g) (row := none) (by repeat (first | (with_reducible first | exact HK.out | apply KeepBut.set_ | apply keep_drewN | apply keep_drew | apply keep_alloc | refine keep_far ?_ GW246.out _) | exact HK.out)))) : g ≠ gb266))
          have n10_ := Aside0.mk ((by rw [hg]; exact Nat.ne_of_gt (Nat.lt_of_lt_of_le HG0.out (keep_size (w := w) (g := g) (row := none) (by repeat (first | (with_reducible first | exact HK.out | apply KeepBut.set_ | apply keep_drewN | apply keep_drew | apply keep_alloc | refine keep_far ?_ GW246.out _) | exact HK.out)))) : gb266 ≠ g))
          have z_HI0 := fun (h0_ : b 1 = false) => (show IsS81 w0 w14 g s0_0 s0_1 from by first | exact (IsS81.below (by repeat (first | (with_reducible first | exact (Q_HI0 h0_) | apply IsS81.alloc | apply IsS81.drewN | apply IsS81.drew | apply IsS81.set_1 | refine IsS81.far ?_ NB0_246.out _) | exact (Q_HI0 h0_))) hb))
          have z_HI0_e1 := fun (h0_ : b 1 = true) (h1_ : b 7 = false) => (show IsS81 w0 w14 g s0_0 t248 from by first | exact (IsS81.below (by repeat (first | (with_reducible first | exact (Q_HI0_e1 h0_ h1_) | apply IsS81.alloc | apply IsS81.drewN | apply IsS81.drew | apply IsS81.set_1 | refine IsS81.far ?_ NB0_246.out _) | exact (Q_HI0_e1 h0_ h1_))) hb))
          have z_HO251 := fun (h0_ : b 5 = true) => (show Kd.R k26 26 w14 w.heap.size (fun _ => True) v250 y249 from by first | exact (Kd.R_below (by (with_reducible repeat (first | apply Kd.R_alloc | apply Kd.R_drewN | apply Kd.R_drew)); exact (Q_HO251 h0_)) hb) | exact Kd.R_mono (Kd.R_below (by (with_reducible repeat (first | apply Kd.R_alloc | apply Kd.R_drewN | apply Kd.R_drew)); exact (Q_HO251 h0_)) hb) (fun _ h_ => by first | trivial | exact h_ | exact h_.1))
          have z_HI0_e7 := fun (h0_ : b 7 = true) (h1_ : b 11 = false) => (show IsS81 w0 w14 g s0_0 t253 from by first | exact (IsS81.below (by repeat (first | (with_reducible first | exact (Q_HI0_e7 h0_ h1_) | apply IsS81.alloc | apply IsS81.drewN | apply IsS81.drew | apply IsS81.set_1 | refine IsS81.far ?_ NB0_246.out _) | exact (Q_HI0_e7 h0_ h1_))) hb))
          have z_HI0_e11 := fun (h0_ : b 11 = true) (h1_ : b 13 = false) => (show IsS81 w0 w14 g s0_0 t259 from by first | exact (IsS81.below (by repeat (first | (with_reducible first | exact (Q_HI0_e11 h0_ h1_) | apply IsS81.alloc | apply IsS81.drewN | apply IsS81.drew | apply IsS81.set_1 | refine IsS81.far ?_ NB0_246.out _) | exact (Q_HI0_e11 h0_ h1_))) hb))
          have z_HI0_e13 := fun (h0_ : b 13 = true) => (show IsS81 w0 w14 g s0_0 t261 from by first | exact (IsS81.below (by repeat (first | (with_reducible first | exact (Q_HI0_e13 h0_) | apply IsS81.alloc | apply IsS81.drewN | apply IsS81.drew | apply IsS81.set_1 | refine IsS81.far ?_ NB0_246.out _) | exact (Q_HI0_e13 h0_))) hb))
          clear BK246
          clear HK
          clear HB
          have BK246 := n1_
          have HK := n2_
          have HB := n3_
          have BK266 := n4_
          have GW266 := n5_
          have GE266 := n6_
          have NB246_266 := n7_
          have NB266_246 := n8_
          have NB0_266 := n9_
          have NB266_0 := n10_
          clear n1_ n2_ n3_ n4_ n5_ n6_ n7_ n8_ n9_ n10_
          clear hb hbox hg
          refine hK.out _ _ ⟨v250, adz_v250, gb266, m8_, (.pointer (some ⟨gb266, 0, none⟩)), (by rw [ha.out]; exact putSel_upk 13 hb_ rfl rfl rfl), (by (with_reducible repeat (first | refine blk_drewN ?_ _ | refine blk_drew ?_ | refine blk_alloc ?_ _)); exact BK246.out), z_HI0, (by repeat (first | (with_reducible first | exact HK.out | apply KeepBut.set_ | apply keep_drewN | apply keep_drew | apply keep_alloc | refine keep_far ?_ GW246.out _ | refine keep_far ?_ GW266.out _) | exact HK.out)), (by repeat (first | (with_reducible first | exact HB.out | apply below_alloc | apply pw_below_drewN | apply below_drew1 | refine below_set ?_ GE246.out | refine below_set ?_ GE266.out) | exact HB.out)), z_HI0_e1, z_HO251, Q_HA_HO251, z_HI0_e7, z_HI0_e11, z_HI0_e13, fun _ _ => (by (with_reducible repeat (first | refine blk_drewN ?_ _ | refine blk_drew ?_ | refine blk_alloc ?_ _)); exact BK266.out), fun _ => GW266.out, fun _ => GE266.out, fun _ => NB0_266.out, fun _ => NB266_0.out, fun _ => NB246_266.out, fun _ => NB266_246.out, fun h0_ => absurd ((hoff 18 (by kernel_rfl)).symm.trans h0_) (by decide), Q_X8_, fun _ => rfl⟩
        refine steps_cons ?_ ?_
        · rintro b a w' ⟨v250, adz_v250, gb266, m8_, m17_, ha, Q_BK246, Q_HI0, Q_HK, Q_HB, Q_HI0_e1, Q_HO251, Q_HA_HO251, Q_HI0_e7, Q_HI0_e11, Q_HI0_e13, Q_BK266, Q_GW266, Q_GE266, Q_NB0_266, Q_NB266_0, Q_NB246_266, Q_NB266_246, Q_BK266_e18, Q_X8_, Q_X17_⟩ hb_ hon hoff
          refine ⟨_, rfl, fun K hK => ?_⟩
          have e5 : a.tmps[5]? = some (m17_) := by rw [ha]; exact putSel_on (e := (17, 5, m17_)) 13 rfl rfl (hon 17 (by kernel_rfl)) rfl
          rw [Q_X17_ (hon 17 (by kernel_rfl))] at e5
          have e22 : a.tmps[22]? = some (.agg #[.int .i64 t247, .int .i64 ((rd_T26 y249 t252).f0), .int .i64 ((rd_T26 y249 t252).f1), .int .i64 0, .int .i64 1, .int .i64 t262, .int .i64 t263, .int .i64 t264, .int .i64 t265]) := by rw [ha]; exact putSel_on (e := (16, 22, .agg #[.int .i64 t247, .int .i64 ((rd_T26 y249 t252).f0), .int .i64 ((rd_T26 y249 t252).f1), .int .i64 0, .int .i64 1, .int .i64 t262, .int .i64 t263, .int .i64 t264, .int .i64 t265])) 12 rfl rfl (hon 16 (by kernel_rfl)) rfl
          replace ha := Aside0.mk ha
          have BK246 := Aside0.mk Q_BK246
          have HK := Aside0.mk Q_HK
          have HB := Aside0.mk Q_HB
          have HO251 := Aside0.mk (Q_HO251 (hon 5 (by kernel_rfl)))
          have HA_HO251 := Aside0.mk (Q_HA_HO251 (hon 5 (by kernel_rfl)))
          have HI0 := Aside0.mk (Q_HI0_e13 (hon 13 (by kernel_rfl)))
          have BK266 := Aside0.mk (Q_BK266 (hon 17 (by kernel_rfl)) hb_)
          have GW266 := Aside0.mk (Q_GW266 (hon 17 (by kernel_rfl)))
          have GE266 := Aside0.mk (Q_GE266 (hon 17 (by kernel_rfl)))
          have NB0_266 := Aside0.mk (Q_NB0_266 (hon 17 (by kernel_rfl)))
          have NB266_0 := Aside0.mk (Q_NB266_0 (hon 17 (by kernel_rfl)))
          have NB246_266 := Aside0.mk (Q_NB246_266 (hon 17 (by kernel_rfl)))
          have NB266_246 := Aside0.mk (Q_NB266_246 (hon 17 (by kernel_rfl)))
          obtain ⟨co24, eo24⟩ := HA_HO251.out
          clear HA_HO251
          subst eo24
          have hs25 : w'.cell? ⟨gb266, 0, none⟩ = some (.int .i64 0) := (blk_cell BK266.out 0).trans rfl
          have hfs25 := blk_frozen BK266.out 0
          have hns25_0 := NB246_266.out
          have hms25_0 := NB266_246.out
          have hs26 : w'.cell? ⟨gb266, 1, none⟩ = some (.int .i64 0) := (blk_cell BK266.out 1).trans rfl
          have hfs26 := blk_frozen BK266.out 1
          have hns26_0 := NB246_266.out
          have hms26_0 := NB266_246.out
          have hs27 : w'.cell? ⟨gb266, 2, none⟩ = some (.int .i64 0) := (blk_cell BK266.out 2).trans rfl
          have hfs27 := blk_frozen BK266.out 2
          have hns27_0 := NB246_266.out
          have hms27_0 := NB266_246.out
          have hs28 : w'.cell? ⟨gb266, 3, none⟩ = some (.int .i64 0) := (blk_cell BK266.out 3).trans rfl
          have hfs28 := blk_frozen BK266.out 3
          have hns28_0 := NB246_266.out
          have hms28_0 := NB266_246.out
          have hs29 : w'.cell? ⟨gb266, 4, none⟩ = some (.int .i64 0) := (blk_cell BK266.out 4).trans rfl
          have hfs29 := blk_frozen BK266.out 4
          have hns29_0 := NB246_266.out
          have hms29_0 := NB266_246.out
          have hs30 : w'.cell? ⟨gb266, 5, none⟩ = some (.int .i64 0) := (blk_cell BK266.out 5).trans rfl
          have hfs30 := blk_frozen BK266.out 5
          have hns30_0 := NB246_266.out
          have hms30_0 := NB266_246.out
          have hs31 : w'.cell? ⟨gb266, 6, none⟩ = some (.int .i64 0) := (blk_cell BK266.out 6).trans rfl
          have hfs31 := blk_frozen BK266.out 6
          have hns31_0 := NB246_266.out
          have hms31_0 := NB266_246.out
          have hs32 : w'.cell? ⟨gb266, 7, none⟩ = some (.int .i64 0) := (blk_cell BK266.out 7).trans rfl
          have hfs32 := blk_frozen BK266.out 7
          have hns32_0 := NB246_266.out
          have hms32_0 := NB266_246.out
          have hs33 : w'.cell? ⟨gb266, 8, none⟩ = some (.int .i64 0) := (blk_cell BK266.out 8).trans rfl
          have hfs33 := blk_frozen BK266.out 8
          have hns33_0 := NB246_266.out
          have hms33_0 := NB266_246.out
          refine skip_ (w1 := ?_) (by rfl) rfl ?_ ?_
          rotate_left
          · go_simp
            rfl
          refine hK.out _ _ ⟨.slice (some adz_v250) y249.length co24, adz_v250, gb266, m8_, m17_, (by rw [ha.out]; exact putSel_none (v := undef) rfl), (by (with_reducible repeat (first | refine blk_drewN ?_ _ | refine blk_drew ?_ | refine blk_alloc ?_ _)); refine blk_far ?_ NB246_266.out _; (with_reducible repeat (first | refine blk_drewN ?_ _ | refine blk_drew ?_ | refine blk_alloc ?_ _)); refine blk_far ?_ NB246_266.out _; (with_reducible repeat (first | refine blk_drewN ?_ _ | refine blk_drew ?_ | refine blk_alloc ?_ _)); refine blk_far ?_ NB246_266.out _; (with_reducible repeat (first | refine blk_drewN ?_ _ | refine blk_drew ?_ | refine blk_alloc ?_ _)); refine blk_far ?_ NB246_266.out _; (with_reducible repeat (first | refine blk_drewN ?_ _ | refine blk_drew ?_ | refine blk_alloc ?_ _)); refine blk_far ?_ NB246_266.out _; (with_reducible repeat (first | refine blk_drewN ?_ _ | refine blk_drew ?_ | refine blk_alloc ?_ _)); refine blk_far ?_ NB246_266.out _; (with_reducible repeat (first | refine blk_drewN ?_ _ | refine blk_drew ?_ | refine blk_alloc ?_ _)); refine blk_far ?_ NB246_266.out _; (with_reducible repeat (first | refine blk_drewN ?_ _ | refine blk_drew ?_ | refine blk_alloc ?_ _)); refine blk_far ?_ NB246_266.out _; (with_reducible repeat (first | refine blk_drewN ?_ _ | refine blk_drew ?_ | refine blk_alloc ?_ _)); refine blk_far ?_ NB246_266.out _; (with_reducible repeat (first | refine blk_drewN ?_ _ | refine blk_drew ?_ | refine blk_alloc ?_ _)); exact BK246.out), fun h0_ => absurd ((hon 1 (by kernel_rfl)).symm.trans h0_) (by decide), (by repeat (first | (with_reducible first | exact HK.out | apply KeepBut.set_ | apply keep_drewN | apply keep_drew | apply keep_alloc | refine keep_far ?_ GW246.out _ | refine keep_far ?_ GW266.out _) | exact HK.out)), (by repeat (first | (with_reducible first | exact HB.out | apply below_alloc | apply pw_below_drewN | apply below_drew1 | refine below_set ?_ (IsS81.ge HI0.out) | refine below_set ?_ GE246.out | refine below_set ?_ GE266.out) | exact HB.out)), fun _ h1_ => absurd ((hon 7 (by kernel_rfl)).symm.trans h1_) (by decide), fun _ => (by (with_reducible repeat (first | apply Kd.R_alloc | apply Kd.R_drewN | apply Kd.R_drew)); exact Kd.R_mono (Kd.R_far (p := ⟨gb266, 8, none⟩) (Kd.R_far (p := ⟨gb266, 7, none⟩) (Kd.R_far (p := ⟨gb266, 6, none⟩) (Kd.R_far (p := ⟨gb266, 5, none⟩) (Kd.R_far (p := ⟨gb266, 4, none⟩) (Kd.R_far (p := ⟨gb266, 3, none⟩) (Kd.R_far (p := ⟨gb266, 2, none⟩) (Kd.R_far (p := ⟨gb266, 1, none⟩) (Kd.R_far (p := ⟨gb266, 0, none⟩) (Kd.R_types HO251.out BK266.out (by decide)) (fun _ hk => hk.2) (.int .i64 t247)) (fun _ hk => hk.2) (.int .i64 ((rd_T26 y249 t252).f0))) (fun _ hk => hk.2) (.int .i64 ((rd_T26 y249 t252).f1))) (fun _ hk => hk.2) (.int .i64 0)) (fun _ hk => hk.2) (.int .i64 1)) (fun _ hk => hk.2) (.int .i64 t262)) (fun _ hk => hk.2) (.int .i64 t263)) (fun _ hk => hk.2) (.int .i64 t264)) (fun _ hk => hk.2) (.int .i64 t265)) (fun _ hk => trivial)), fun _ => ⟨_, rfl⟩, fun _ h1_ => absurd ((hon 11 (by kernel_rfl)).symm.trans h1_) (by decide), fun _ h1_ => absurd ((hon 13 (by kernel_rfl)).symm.trans h1_) (by decide), fun _ => (by repeat (first | (with_reducible first | exact HI0.out | apply IsS81.alloc | apply IsS81.drewN | apply IsS81.drew | apply IsS81.set_1 | refine IsS81.far ?_ NB0_246.out _ | refine IsS81.far ?_ NB0_266.out _) | exact HI0.out)), fun _ h1_ => absurd ((up_self b 18).symm.trans h1_) (by decide), fun _ => GW266.out, fun _ => GE266.out, fun _ => NB0_266.out, fun _ => NB266_0.out, fun _ => NB246_266.out, fun _ => NB266_246.out, fun _ => (by (with_reducible repeat (first | refine blk_drewN ?_ _ | refine blk_drew ?_ | refine blk_alloc ?_ _)); refine blk_put (cs := #[.int .i64 t247, .int .i64 ((rd_T26 y249 t252).f0), .int .i64 ((rd_T26 y249 t252).f1), .int .i64 0, .int .i64 1, .int .i64 t262, .int .i64 t263, .int .i64 t264, .int .i64 0]) ?_ 8 _ rfl; (with_reducible repeat (first | refine blk_drewN ?_ _ | refine blk_drew ?_ | refine blk_alloc ?_ _)); refine blk_put (cs := #[.int .i64 t247, .int .i64 ((rd_T26 y249 t252).f0), .int .i64 ((rd_T26 y249 t252).f1), .int .i64 0, .int .i64 1, .int .i64 t262, .int .i64 t263, .int .i64 0, .int .i64 0]) ?_ 7 _ rfl; (with_reducible repeat (first | refine blk_drewN ?_ _ | refine blk_drew ?_ | refine blk_alloc ?_ _)); refine blk_put (cs := #[.int .i64 t247, .int .i64 ((rd_T26 y249 t252).f0), .int .i64 ((rd_T26 y249 t252).f1), .int .i64 0, .int .i64 1, .int .i64 t262, .int .i64 0, .int .i64 0, .int .i64 0]) ?_ 6 _ rfl; (with_reducible repeat (first | refine blk_drewN ?_ _ | refine blk_drew ?_ | refine blk_alloc ?_ _)); refine blk_put (cs := #[.int .i64 t247, .int .i64 ((rd_T26 y249 t252).f0), .int .i64 ((rd_T26 y249 t252).f1), .int .i64 0, .int .i64 1, .int .i64 0, .int .i64 0, .int .i64 0, .int .i64 0]) ?_ 5 _ rfl; (with_reducible repeat (first | refine blk_drewN ?_ _ | refine blk_drew ?_ | refine blk_alloc ?_ _)); refine blk_put (cs := #[.int .i64 t247, .int .i64 ((rd_T26 y249 t252).f0), .int .i64 ((rd_T26 y249 t252).f1), .int .i64 0, .int .i64 0, .int .i64 0, .int .i64 0, .int .i64 0, .int .i64 0]) ?_ 4 _ rfl; (with_reducible repeat (first | refine blk_drewN ?_ _ | refine blk_drew ?_ | refine blk_alloc ?_ _)); refine blk_put (cs := #[.int .i64 t247, .int .i64 ((rd_T26 y249 t252).f0), .int .i64 ((rd_T26 y249 t252).f1), .int .i64 0, .int .i64 0, .int .i64 0, .int .i64 0, .int .i64 0, .int .i64 0]) ?_ 3 _ rfl; (with_reducible repeat (first | refine blk_drewN ?_ _ | refine blk_drew ?_ | refine blk_alloc ?_ _)); refine blk_put (cs := #[.int .i64 t247, .int .i64 ((rd_T26 y249 t252).f0), .int .i64 0, .int .i64 0, .int .i64 0, .int .i64 0, .int .i64 0, .int .i64 0, .int .i64 0]) ?_ 2 _ rfl; (with_reducible repeat (first | refine blk_drewN ?_ _ | refine blk_drew ?_ | refine blk_alloc ?_ _)); refine blk_put (cs := #[.int .i64 t247, .int .i64 0, .int .i64 0, .int .i64 0, .int .i64 0, .int .i64 0, .int .i64 0, .int .i64 0, .int .i64 0]) ?_ 1 _ rfl; (with_reducible repeat (first | refine blk_drewN ?_ _ | refine blk_drew ?_ | refine blk_alloc ?_ _)); refine blk_put (cs := #[.int .i64 0, .int .i64 0, .int .i64 0, .int .i64 0, .int .i64 0, .int .i64 0, .int .i64 0, .int .i64 0, .int .i64 0]) ?_ 0 _ rfl; (with_reducible repeat (first | refine blk_drewN ?_ _ | refine blk_drew ?_ | refine blk_alloc ?_ _)); exact BK266.out), Q_X8_, Q_X17_⟩
        exact steps_nil
      rintro b a w32 hall ⟨v250, adz_v250, gb266, m8_, m17_, ha, Q_BK246, Q_HI0, Q_HK, Q_HB, Q_HI0_e1, Q_HO251, Q_HA_HO251, Q_HI0_e7, Q_HI0_e11, Q_HI0_e13, Q_BK266, Q_GW266, Q_GE266, Q_NB0_266, Q_NB266_0, Q_NB246_266, Q_NB266_246, Q_BK266_e18, Q_X8_, Q_X17_⟩
      clear BK246 HB HI0 HK
      have hb1_ := hall 1 (by kernel_rfl)
      have hb2_ := hall 2 (by kernel_rfl)
      have hb3_ := hall 3 (by kernel_rfl)
      have hb4_ := hall 4 (by kernel_rfl)
      have hb5_ := hall 5 (by kernel_rfl)
      have hb7_ := hall 7 (by kernel_rfl)
      have hb8_ := hall 8 (by kernel_rfl)
      have hb9_ := hall 9 (by kernel_rfl)
      have hb11_ := hall 11 (by kernel_rfl)
      have hb13_ := hall 13 (by kernel_rfl)
      have hb14_ := hall 14 (by kernel_rfl)
      have hb15_ := hall 15 (by kernel_rfl)
      have hb16_ := hall 16 (by kernel_rfl)
      have hb17_ := hall 17 (by kernel_rfl)
      have hb18_ := hall 18 (by kernel_rfl)
      subst ha
      obtain rfl := Q_X8_ hb8_
      obtain rfl := Q_X17_ hb17_
      simp only [putSel, hb1_, hb2_, hb3_, hb4_, hb5_, hb7_, hb8_, hb9_, hb11_, hb13_, hb14_, hb15_, hb16_, hb17_, hb18_, if_true, Act.put, List.setIfInBounds_toArray, List.set_cons_zero, List.set_cons_succ]
      have BK246 := Aside0.mk Q_BK246
      clear Q_BK246
      clear Q_HI0
      have HK := Aside0.mk Q_HK
      clear Q_HK
      have HB := Aside0.mk Q_HB
      clear Q_HB
      clear Q_HI0_e1
      have HO251 := Aside0.mk (Q_HO251 hb5_)
      clear Q_HO251
      have HA_HO251 := Aside0.mk (Q_HA_HO251 hb5_)
      clear Q_HA_HO251
      clear Q_HI0_e7
      clear Q_HI0_e11
      have HI0 := Aside0.mk (Q_HI0_e13 hb13_)
      clear Q_HI0_e13
      clear Q_BK266
      have GW266 := Aside0.mk (Q_GW266 hb17_)
      clear Q_GW266
      have GE266 := Aside0.mk (Q_GE266 hb17_)
      clear Q_GE266
      have NB0_266 := Aside0.mk (Q_NB0_266 hb17_)
      clear Q_NB0_266
      have NB266_0 := Aside0.mk (Q_NB266_0 hb17_)
      clear Q_NB266_0
      have NB246_266 := Aside0.mk (Q_NB246_266 hb17_)
      clear Q_NB246_266
      have NB266_246 := Aside0.mk (Q_NB266_246 hb17_)
      clear Q_NB266_246
      have BK266 := Aside0.mk (Q_BK266_e18 hb18_)
      clear Q_BK266_e18
      clear hall hb1_ hb2_ hb3_ hb4_ hb5_ hb7_ hb8_ hb9_ hb11_ hb13_ hb14_ hb15_ hb16_ hb17_ hb18_
      obtain ⟨co33, eo33⟩ := HA_HO251.out
      clear HA_HO251
      subst eo33
      go_upto_if 25 with (first | ((with_reducible refine gate_callee (f := 53) rfl ?_); refine goesL_ (some 24) rfl rfl Try.func53 (by kernel_rfl) rfl #[.pointer (some ⟨g, 0, none⟩), .int .i64 2] rfl (by (try simp only [List.map_toArray, List.map_cons, List.map_nil]); first | done | rfl | (simp only [List.length_drop, List.length_take]; rfl)) ?_; (with_reducible refine (spec_l20Rd_pick.calls k g s0_0 t261 2 t267 t268 w0 _ ?side1 ?side2 A10.out).mono ?_); (case side1 => repeat (first | (with_reducible first | exact HI0.out | apply IsS81.alloc | apply IsS81.drewN | apply IsS81.drew | apply IsS81.set_1 | refine IsS81.far ?_ NB0_246.out _ | refine IsS81.far ?_ NB0_266.out _) | exact HI0.out)); (case side2 => repeat (first | (with_reducible first | exact HB.out | apply below_alloc | apply pw_below_drewN | apply below_drew1 | refine below_set ?_ (IsS81.ge HI0.out) | refine below_set ?_ GE246.out | refine below_set ?_ GE266.out) | exact HB.out)); rintro e w34 ⟨rfl, hi, hb, hk⟩; refine ⟨_, rfl, ?_⟩; have n0_ := Aside0.mk (KeepBut.blk hk (g' := gb246) (o := .cells #[.int .i64 0, .int .i64 0, .int .i64 0, .int .i64 0, .int .i64 0, .int .i64 0, .int .i64 0, .int .i64 0, .int .i64 0] 89 (0, 0)) (by (with_reducible repeat (first | refine blk_drewN ?_ _ | refine blk_drew ?_ | refine blk_alloc ?_ _)); exact BK246.out) NB246_0.out (by simp)); have n1_ := Aside0.mk (Kd.R_mono (Kd.R_keep (IsS81.apart (show IsS81 w0 _ g s0_0 t261 from by repeat (first | (with_reducible first | exact HI0.out | apply IsS81.alloc | apply IsS81.drewN | apply IsS81.drew | apply IsS81.set_1 | refine IsS81.far ?_ NB0_246.out _ | refine IsS81.far ?_ NB0_266.out _) | exact HI0.out)) (by (with_reducible repeat (first | apply Kd.R_alloc | apply Kd.R_drewN | apply Kd.R_drew)); exact HO251.out) (by decide)) hk (fun _ h => h.2)) (fun _ h => h.1)); have n2_ := Aside0.mk (KeepBut.blk hk (g' := gb266) (o := .cells #[.int .i64 t247, .int .i64 ((rd_T26 y249 t252).f0), .int .i64 ((rd_T26 y249 t252).f1), .int .i64 0, .int .i64 1, .int .i64 t262, .int .i64 t263, .int .i64 t264, .int .i64 t265] 89 (0, 0)) (by (with_reducible repeat (first | refine blk_drewN ?_ _ | refine blk_drew ?_ | refine blk_alloc ?_ _)); exact BK266.out) NB266_0.out (by simp)); have n3_ := Aside0.mk (KeepBut.trans (by repeat (first | (with_reducible first | exact HK.out | apply KeepBut.set_ | apply keep_drewN | apply keep_drew | apply keep_alloc | refine keep_far ?_ GW246.out _ | refine keep_far ?_ GW266.out _) | exact HK.out)) hk (.inl rfl)); have n4_ := Aside0.mk (hb); have n5_ := Aside0.mk (hi); clear BK246; clear HO251; clear BK266; clear HK; clear HB; clear HI0; have BK246 := n0_; have HO251 := n1_; have BK266 := n2_; have HK := n3_; have HB := n4_; have HI0 := n5_; clear n0_ n1_ n2_ n3_ n4_ n5_; (try clear hb); (try clear hb2); (try clear hk); (try clear hi)))
      (try simp only [Act.put, List.setIfInBounds_toArray, List.set_cons_zero, List.set_cons_succ])
      go_cut [] (fun wc => ∃ (kq : Nat) (x1001_10 : Int) (x267003_10 : Int) (x267004_10 : Int), Aside0 (spec_l20Pane.j0 kq a1 s0_0 x1001_10 t247 ((rd_T26 y249 t252).f0) ((rd_T26 y249 t252).f1) x267003_10 x267004_10 t262 t263 t264 t265 = some (r1, r2, r3, r4, r5, r6, r7, r8, r9, r10)) ∧ Aside0 (kq ≤ k) ∧ Aside0 (wc.heap[gb246]? = some (.cells #[.int .i64 0, .int .i64 0, .int .i64 0, .int .i64 0, .int .i64 0, .int .i64 0, .int .i64 0, .int .i64 0, .int .i64 0] 89 (0, 0))) ∧ Aside0 (wc.heap[gb266]? = some (.cells #[.int .i64 t247, .int .i64 ((rd_T26 y249 t252).f0), .int .i64 ((rd_T26 y249 t252).f1), .int .i64 x267003_10, .int .i64 x267004_10, .int .i64 t262, .int .i64 t263, .int .i64 t264, .int .i64 t265] 89 (0, 0))) ∧ Aside0 (IsS81 w0 wc g s0_0 x1001_10) ∧ Aside0 (KeepBut w wc g none) ∧ Aside0 (Below w0.heap.size w0 wc))
      case first =>
        have H := HC11.out
        clear HC11
        by_cases c35 : t267 = 0
        · rw [if_pos c35] at H
          have c35b0 : (t267 == 0) = true := beq_iff_eq.mpr c35
          have c35b1 : (t267 != 0) = false := bne_eq_false_iff_eq.mpr c35
          clear c35
          (first | rw [c35b0] | (simp only [i64_w, i32_w]; rw [c35b0]) | skip)
          replace H := Option.bind_eq_some_iff.mp H
          obtain ⟨⟨t269, t270⟩, A360, H⟩ := H
          replace H : (spec_l20Pane.j0 k a1 s0_0 t270 t247 ((rd_T26 y249 t252).f0) ((rd_T26 y249 t252).f1) (wrap64 (1 + t269)) 2 t262 t263 t264 t265) = some (r1, r2, r3, r4, r5, r6, r7, r8, r9, r10) := H
          have A36 := Aside0.mk A360
          clear A360
          have H' := Aside0.mk H
          clear H
          have hnb37 := NB266_246.out
          have hnc37 := NB246_266.out
          have hnb38 := NB266_0.out
          have hnc38 := NB0_266.out
          have hcz39_0 : w34.cell? ⟨gb266, 0, none⟩ = some (.int .i64 t247) := (blk_cell BK266.out 0).trans rfl
          have hcz39_1 : w34.cell? ⟨gb266, 1, none⟩ = some (.int .i64 ((rd_T26 y249 t252).f0)) := (blk_cell BK266.out 1).trans rfl
          have hcz39_2 : w34.cell? ⟨gb266, 2, none⟩ = some (.int .i64 ((rd_T26 y249 t252).f1)) := (blk_cell BK266.out 2).trans rfl
          have hcz39_3 : w34.cell? ⟨gb266, 3, none⟩ = some (.int .i64 0) := (blk_cell BK266.out 3).trans rfl
          have hcz39_4 : w34.cell? ⟨gb266, 4, none⟩ = some (.int .i64 1) := (blk_cell BK266.out 4).trans rfl
          have hcz39_5 : w34.cell? ⟨gb266, 5, none⟩ = some (.int .i64 t262) := (blk_cell BK266.out 5).trans rfl
          have hcz39_6 : w34.cell? ⟨gb266, 6, none⟩ = some (.int .i64 t263) := (blk_cell BK266.out 6).trans rfl
          have hcz39_7 : w34.cell? ⟨gb266, 7, none⟩ = some (.int .i64 t264) := (blk_cell BK266.out 7).trans rfl
          have hcz39_8 : w34.cell? ⟨gb266, 8, none⟩ = some (.int .i64 t265) := (blk_cell BK266.out 8).trans rfl
          have hfz39_0 := blk_frozen BK266.out 0
          have hfz39_1 := blk_frozen BK266.out 1
          have hfz39_2 := blk_frozen BK266.out 2
          have hfz39_3 := blk_frozen BK266.out 3
          have hfz39_4 := blk_frozen BK266.out 4
          have hfz39_5 := blk_frozen BK266.out 5
          have hfz39_6 := blk_frozen BK266.out 6
          have hfz39_7 := blk_frozen BK266.out 7
          have hfz39_8 := blk_frozen BK266.out 8
          go_wp2_with (first | ((with_reducible refine gate_callee (f := 53) rfl ?_); refine goesL_ (some 28) rfl rfl Try.func53 (by kernel_rfl) rfl #[.pointer (some ⟨g, 0, none⟩), .int .i64 3] rfl (by (try simp only [List.map_toArray, List.map_cons, List.map_nil]); first | done | rfl | (simp only [List.length_drop, List.length_take]; rfl)) ?_; (with_reducible refine (spec_l20Rd_pick.calls k g s0_0 t268 3 t269 t270 w0 _ ?side1 ?side2 A36.out).mono ?_); (case side1 => repeat (first | (with_reducible first | exact HI0.out | apply IsS81.alloc | apply IsS81.drewN | apply IsS81.drew | apply IsS81.set_1 | refine IsS81.far ?_ NB0_246.out _ | refine IsS81.far ?_ NB0_266.out _) | exact HI0.out)); (case side2 => repeat (first | (with_reducible first | exact HB.out | apply below_alloc | apply pw_below_drewN | apply below_drew1 | refine below_set ?_ (IsS81.ge HI0.out) | refine below_set ?_ GE246.out | refine below_set ?_ GE266.out) | exact HB.out)); rintro e w40 ⟨rfl, hi, hb, hk⟩; refine ⟨_, rfl, ?_⟩; have n0_ := Aside0.mk (KeepBut.blk hk (g' := gb246) (o := .cells #[.int .i64 0, .int .i64 0, .int .i64 0, .int .i64 0, .int .i64 0, .int .i64 0, .int .i64 0, .int .i64 0, .int .i64 0] 89 (0, 0)) (by (with_reducible repeat (first | refine blk_drewN ?_ _ | refine blk_drew ?_ | refine blk_alloc ?_ _)); refine blk_far ?_ NB246_266.out _; (with_reducible repeat (first | refine blk_drewN ?_ _ | refine blk_drew ?_ | refine blk_alloc ?_ _)); exact BK246.out) NB246_0.out (by simp)); have n1_ := Aside0.mk (Kd.R_mono (Kd.R_keep (IsS81.apart (show IsS81 w0 _ g s0_0 t268 from by repeat (first | (with_reducible first | exact HI0.out | apply IsS81.alloc | apply IsS81.drewN | apply IsS81.drew | apply IsS81.set_1 | refine IsS81.far ?_ NB0_246.out _ | refine IsS81.far ?_ NB0_266.out _) | exact HI0.out)) (by (with_reducible repeat (first | apply Kd.R_alloc | apply Kd.R_drewN | apply Kd.R_drew)); exact (Kd.R_mono (Kd.R_far (p := ⟨gb266, 4, none⟩) (Kd.R_types HO251.out BK266.out (by decide)) (fun _ hk => hk.2) (.int .i64 2)) (fun _ h_ => h_.1))) (by decide)) hk (fun _ h => h.2)) (fun _ h => h.1)); have n2_ := Aside0.mk (KeepBut.blk hk (g' := gb266) (o := .cells #[.int .i64 t247, .int .i64 ((rd_T26 y249 t252).f0), .int .i64 ((rd_T26 y249 t252).f1), .int .i64 0, .int .i64 2, .int .i64 t262, .int .i64 t263, .int .i64 t264, .int .i64 t265] 89 (0, 0)) (by (with_reducible repeat (first | refine blk_drewN ?_ _ | refine blk_drew ?_ | refine blk_alloc ?_ _)); refine blk_put (cs := #[.int .i64 t247, .int .i64 ((rd_T26 y249 t252).f0), .int .i64 ((rd_T26 y249 t252).f1), .int .i64 0, .int .i64 1, .int .i64 t262, .int .i64 t263, .int .i64 t264, .int .i64 t265]) ?_ 4 _ rfl; (with_reducible repeat (first | refine blk_drewN ?_ _ | refine blk_drew ?_ | refine blk_alloc ?_ _)); exact BK266.out) NB266_0.out (by simp)); have n3_ := Aside0.mk (KeepBut.trans (by repeat (first | (with_reducible first | exact HK.out | apply KeepBut.set_ | apply keep_drewN | apply keep_drew | apply keep_alloc | refine keep_far ?_ GW246.out _ | refine keep_far ?_ GW266.out _) | exact HK.out)) hk (.inl rfl)); have n4_ := Aside0.mk (hb); have n5_ := Aside0.mk (hi); clear BK246; clear HO251; clear BK266; clear HK; clear HB; clear HI0; have BK246 := n0_; have HO251 := n1_; have BK266 := n2_; have HK := n3_; have HB := n4_; have HI0 := n5_; clear n0_ n1_ n2_ n3_ n4_ n5_; (try clear hb); (try clear hb2); (try clear hk); (try clear hi); have hcz41_0 : w40.cell? ⟨gb266, 0, none⟩ = some (.int .i64 t247) := (blk_cell BK266.out 0).trans rfl; have hcz41_1 : w40.cell? ⟨gb266, 1, none⟩ = some (.int .i64 ((rd_T26 y249 t252).f0)) := (blk_cell BK266.out 1).trans rfl; have hcz41_2 : w40.cell? ⟨gb266, 2, none⟩ = some (.int .i64 ((rd_T26 y249 t252).f1)) := (blk_cell BK266.out 2).trans rfl; have hcz41_3 : w40.cell? ⟨gb266, 3, none⟩ = some (.int .i64 0) := (blk_cell BK266.out 3).trans rfl; have hcz41_4 : w40.cell? ⟨gb266, 4, none⟩ = some (.int .i64 2) := (blk_cell BK266.out 4).trans rfl; have hcz41_5 : w40.cell? ⟨gb266, 5, none⟩ = some (.int .i64 t262) := (blk_cell BK266.out 5).trans rfl; have hcz41_6 : w40.cell? ⟨gb266, 6, none⟩ = some (.int .i64 t263) := (blk_cell BK266.out 6).trans rfl; have hcz41_7 : w40.cell? ⟨gb266, 7, none⟩ = some (.int .i64 t264) := (blk_cell BK266.out 7).trans rfl; have hcz41_8 : w40.cell? ⟨gb266, 8, none⟩ = some (.int .i64 t265) := (blk_cell BK266.out 8).trans rfl; have hfz41_0 := blk_frozen BK266.out 0; have hfz41_1 := blk_frozen BK266.out 1; have hfz41_2 := blk_frozen BK266.out 2; have hfz41_3 := blk_frozen BK266.out 3; have hfz41_4 := blk_frozen BK266.out 4; have hfz41_5 := blk_frozen BK266.out 5; have hfz41_6 := blk_frozen BK266.out 6; have hfz41_7 := blk_frozen BK266.out 7; have hfz41_8 := blk_frozen BK266.out 8))
          go_meet
          case rel => exact ⟨_, (t270), (wrap64 (1 + t269)), (2), H', ⟨by first | omega | exact Nat.le_refl _⟩, ⟨by (with_reducible repeat (first | refine blk_drewN ?_ _ | refine blk_drew ?_ | refine blk_alloc ?_ _)); refine blk_far ?_ NB246_266.out _; (with_reducible repeat (first | refine blk_drewN ?_ _ | refine blk_drew ?_ | refine blk_alloc ?_ _)); exact BK246.out⟩, ⟨by (with_reducible repeat (first | refine blk_drewN ?_ _ | refine blk_drew ?_ | refine blk_alloc ?_ _)); refine blk_put (cs := #[.int .i64 t247, .int .i64 ((rd_T26 y249 t252).f0), .int .i64 ((rd_T26 y249 t252).f1), .int .i64 0, .int .i64 2, .int .i64 t262, .int .i64 t263, .int .i64 t264, .int .i64 t265]) ?_ 3 _ rfl; (with_reducible repeat (first | refine blk_drewN ?_ _ | refine blk_drew ?_ | refine blk_alloc ?_ _)); exact BK266.out⟩, ⟨by repeat (first | (with_reducible first | exact HI0.out | apply IsS81.alloc | apply IsS81.drewN | apply IsS81.drew | apply IsS81.set_1 | refine IsS81.far ?_ NB0_246.out _ | refine IsS81.far ?_ NB0_266.out _) | exact HI0.out)⟩, ⟨by repeat (first | (with_reducible first | exact HK.out | apply KeepBut.set_ | apply keep_drewN | apply keep_drew | apply keep_alloc | refine keep_far ?_ GW246.out _ | refine keep_far ?_ GW266.out _) | exact HK.out)⟩, ⟨by repeat (first | (with_reducible first | exact HB.out | apply below_alloc | apply pw_below_drewN | apply below_drew1 | refine below_set ?_ (IsS81.ge HI0.out) | refine below_set ?_ GE246.out | refine below_set ?_ GE266.out) | exact HB.out)⟩⟩
        · rw [if_neg c35] at H
          have c35b0 : (t267 == 0) = false := beq_eq_false_iff_ne.mpr c35
          have c35b1 : (t267 != 0) = true := bne_iff_ne.mpr c35
          (first | rw [c35b0] | (simp only [i64_w, i32_w]; rw [c35b0]) | skip)
          have H' := Aside0.mk H
          clear H
          go_wp2
          go_meet
          case rel => exact ⟨_, (t268), (0), (1), H', ⟨by first | omega | exact Nat.le_refl _⟩, ⟨by (with_reducible repeat (first | refine blk_drewN ?_ _ | refine blk_drew ?_ | refine blk_alloc ?_ _)); exact BK246.out⟩, ⟨by (with_reducible repeat (first | refine blk_drewN ?_ _ | refine blk_drew ?_ | refine blk_alloc ?_ _)); exact BK266.out⟩, ⟨by repeat (first | (with_reducible first | exact HI0.out | apply IsS81.alloc | apply IsS81.drewN | apply IsS81.drew | apply IsS81.set_1 | refine IsS81.far ?_ NB0_246.out _ | refine IsS81.far ?_ NB0_266.out _) | exact HI0.out)⟩, ⟨by repeat (first | (with_reducible first | exact HK.out | apply KeepBut.set_ | apply keep_drewN | apply keep_drew | apply keep_alloc | refine keep_far ?_ GW246.out _ | refine keep_far ?_ GW266.out _) | exact HK.out)⟩, ⟨by repeat (first | (with_reducible first | exact HB.out | apply below_alloc | apply pw_below_drewN | apply below_drew1 | refine below_set ?_ (IsS81.ge HI0.out) | refine below_set ?_ GE246.out | refine below_set ?_ GE266.out) | exact HB.out)⟩⟩
      case rest =>
        clear HC11
        try clear hx1
        try clear c2
        try clear p2
        try clear qi2
        try clear c3
        try clear c5
        try clear c6
        try clear p6
        try clear qi25
        try clear c35
        try clear c35b0
        try clear c35b1
        try clear c37
        try clear c38
        try clear hcz39_0
        try clear hcz39_1
        try clear hcz39_2
        try clear hcz39_3
        try clear hcz39_4
        try clear hcz39_5
        try clear hcz39_6
        try clear hcz39_7
        try clear hcz39_8
        try clear hcz41_0
        try clear hcz41_1
        try clear hcz41_2
        try clear hcz41_3
        try clear hcz41_4
        try clear hcz41_5
        try clear hcz41_6
        try clear hcz41_7
        try clear hcz41_8
        try clear hfz39_0
        try clear hfz39_1
        try clear hfz39_2
        try clear hfz39_3
        try clear hfz39_4
        try clear hfz39_5
        try clear hfz39_6
        try clear hfz39_7
        try clear hfz39_8
        try clear hfz41_0
        try clear hfz41_1
        try clear hfz41_2
        try clear hfz41_3
        try clear hfz41_4
        try clear hfz41_5
        try clear hfz41_6
        try clear hfz41_7
        try clear hfz41_8
        obtain ⟨kq, x1001_10, x267003_10, x267004_10, HA, HJ10, BK246, BK266, HI0, HK, HB⟩ := hcut
        cases kq with
        | zero => exact absurd HA.out (by simp [spec_l20Pane.j0])
        | succ kj10 =>
          have H := HA.out
          clear HA
          simp only [spec_l20Pane.j0] at H
          replace H := Option.bind_eq_some_iff.mp H
          obtain ⟨⟨t271, t272⟩, A420, H⟩ := H
          replace H : (if t271 = 0 then ((spec_l20Rd_pick.f kj10 s0_0 t272 3).bind fun bt273 => (spec_l20Pane.j1 kj10 a1 s0_0 bt273.2 t247 ((rd_T26 y249 t252).f0) ((rd_T26 y249 t252).f1) (wrap64 (1 + bt273.1)) 3 0 0 0 0)) else (spec_l20Pane.j1 kj10 a1 s0_0 t272 t247 ((rd_T26 y249 t252).f0) ((rd_T26 y249 t252).f1) x267003_10 x267004_10 t262 t263 t264 t265)) = some (r1, r2, r3, r4, r5, r6, r7, r8, r9, r10) := H
          have A42 := Aside0.mk A420
          clear A420
          have HC43 := Aside0.mk H
          clear H
          go_upto_if 33 with (first | ((with_reducible refine gate_callee (f := 53) rfl ?_); refine goesL_ (some 32) rfl rfl Try.func53 (by kernel_rfl) rfl #[.pointer (some ⟨g, 0, none⟩), .int .i64 5] rfl (by (try simp only [List.map_toArray, List.map_cons, List.map_nil]); first | done | rfl | (simp only [List.length_drop, List.length_take]; rfl)) ?_; (with_reducible refine (spec_l20Rd_pick.calls kj10 g s0_0 x1001_10 5 t271 t272 w0 _ ?side1 ?side2 A42.out).mono ?_); (case side1 => repeat (first | (with_reducible first | exact HI0.out | apply IsS81.alloc | apply IsS81.drewN | apply IsS81.drew | apply IsS81.set_1 | refine IsS81.far ?_ NB0_246.out _ | refine IsS81.far ?_ NB0_266.out _) | exact HI0.out)); (case side2 => repeat (first | (with_reducible first | exact HB.out | apply below_alloc | apply pw_below_drewN | apply below_drew1 | refine below_set ?_ (IsS81.ge HI0.out) | refine below_set ?_ GE246.out | refine below_set ?_ GE266.out) | exact HB.out)); rintro e w44 ⟨rfl, hi, hb, hk⟩; refine ⟨_, rfl, ?_⟩; have n0_ := Aside0.mk (KeepBut.blk hk (g' := gb246) (o := .cells #[.int .i64 0, .int .i64 0, .int .i64 0, .int .i64 0, .int .i64 0, .int .i64 0, .int .i64 0, .int .i64 0, .int .i64 0] 89 (0, 0)) (by (with_reducible repeat (first | refine blk_drewN ?_ _ | refine blk_drew ?_ | refine blk_alloc ?_ _)); exact BK246.out) NB246_0.out (by simp)); have n1_ := Aside0.mk (KeepBut.blk hk (g' := gb266) (o := .cells #[.int .i64 t247, .int .i64 ((rd_T26 y249 t252).f0), .int .i64 ((rd_T26 y249 t252).f1), .int .i64 x267003_10, .int .i64 x267004_10, .int .i64 t262, .int .i64 t263, .int .i64 t264, .int .i64 t265] 89 (0, 0)) (by (with_reducible repeat (first | refine blk_drewN ?_ _ | refine blk_drew ?_ | refine blk_alloc ?_ _)); exact BK266.out) NB266_0.out (by simp)); have n2_ := Aside0.mk (KeepBut.trans (by repeat (first | (with_reducible first | exact HK.out | apply KeepBut.set_ | apply keep_drewN | apply keep_drew | apply keep_alloc | refine keep_far ?_ GW246.out _ | refine keep_far ?_ GW266.out _) | exact HK.out)) hk (.inl rfl)); have n3_ := Aside0.mk (hb); have n4_ := Aside0.mk (hi); clear BK246; clear BK266; clear HK; clear HB; clear HI0; have BK246 := n0_; have BK266 := n1_; have HK := n2_; have HB := n3_; have HI0 := n4_; clear n0_ n1_ n2_ n3_ n4_; (try clear hb); (try clear hb2); (try clear hk); (try clear hi)))
          (try simp only [Act.put, List.setIfInBounds_toArray, List.set_cons_zero, List.set_cons_succ])
          go_cut [] (fun wc => ∃ (kq : Nat) (x1001_42 : Int) (x267000_42 : Int) (x267001_42 : Int) (x267002_42 : Int) (x267003_42 : Int) (x267004_42 : Int) (x267005_42 : Int) (x267006_42 : Int) (x267007_42 : Int) (x267008_42 : Int), Aside0 (spec_l20Pane.j1 kq a1 s0_0 x1001_42 x267000_42 x267001_42 x267002_42 x267003_42 x267004_42 x267005_42 x267006_42 x267007_42 x267008_42 = some (r1, r2, r3, r4, r5, r6, r7, r8, r9, r10)) ∧ Aside0 (kq ≤ kj10) ∧ Aside0 (wc.heap[gb246]? = some (.cells #[.int .i64 0, .int .i64 0, .int .i64 0, .int .i64 0, .int .i64 0, .int .i64 0, .int .i64 0, .int .i64 0, .int .i64 0] 89 (0, 0))) ∧ Aside0 (wc.heap[gb266]? = some (.cells #[.int .i64 x267000_42, .int .i64 x267001_42, .int .i64 x267002_42, .int .i64 x267003_42, .int .i64 x267004_42, .int .i64 x267005_42, .int .i64 x267006_42, .int .i64 x267007_42, .int .i64 x267008_42] 89 (0, 0))) ∧ Aside0 (IsS81 w0 wc g s0_0 x1001_42) ∧ Aside0 (KeepBut w wc g none) ∧ Aside0 (Below w0.heap.size w0 wc))
          case first =>
            have H := HC43.out
            clear HC43
            by_cases c45 : t271 = 0
            · rw [if_pos c45] at H
              have c45b0 : (t271 == 0) = true := beq_iff_eq.mpr c45
              have c45b1 : (t271 != 0) = false := bne_eq_false_iff_eq.mpr c45
              clear c45
              (first | rw [c45b0] | (simp only [i64_w, i32_w]; rw [c45b0]) | skip)
              replace H := Option.bind_eq_some_iff.mp H
              obtain ⟨⟨t273, t274⟩, A460, H⟩ := H
              replace H : (spec_l20Pane.j1 kj10 a1 s0_0 t274 t247 ((rd_T26 y249 t252).f0) ((rd_T26 y249 t252).f1) (wrap64 (1 + t273)) 3 0 0 0 0) = some (r1, r2, r3, r4, r5, r6, r7, r8, r9, r10) := H
              have A46 := Aside0.mk A460
              clear A460
              have H' := Aside0.mk H
              clear H
              try go_wp2
              have n0_ := Aside0.mk (blk_drew BK246.out)
              have n1_ := Aside0.mk (blk_drew BK266.out)
              have n2_ := Aside0.mk (IsS81.drew HI0.out)
              have n3_ := Aside0.mk (keep_drew HK.out)
              have n4_ := Aside0.mk (below_drew1 HB.out)
              clear BK246
              clear BK266
              clear HI0
              clear HK
              clear HB
              have BK246 := n0_
              have BK266 := n1_
              have HI0 := n2_
              have HK := n3_
              have HB := n4_
              clear n0_ n1_ n2_ n3_ n4_
              refine start_ (n := 9) (S := fun w' => w'.cell? ⟨gb266, 0, none⟩ = some (.int .i64 t247) ∧ w'.cell? ⟨gb266, 1, none⟩ = some (.int .i64 ((rd_T26 y249 t252).f0)) ∧ w'.cell? ⟨gb266, 2, none⟩ = some (.int .i64 ((rd_T26 y249 t252).f1)) ∧ w'.cell? ⟨gb266, 3, none⟩ = some (.int .i64 x267003_10) ∧ w'.cell? ⟨gb266, 4, none⟩ = some (.int .i64 x267004_10) ∧ w'.cell? ⟨gb266, 5, none⟩ = some (.int .i64 t262) ∧ w'.cell? ⟨gb266, 6, none⟩ = some (.int .i64 t263) ∧ w'.cell? ⟨gb266, 7, none⟩ = some (.int .i64 t264) ∧ w'.cell? ⟨gb266, 8, none⟩ = some (.int .i64 t265)) (ds := [8]) #[false, false, false, false, false, false, false, false, false] (by kernel_rfl) rfl rfl ⟨(blk_cell BK266.out 0).trans rfl, (blk_cell BK266.out 1).trans rfl, (blk_cell BK266.out 2).trans rfl, (blk_cell BK266.out 3).trans rfl, (blk_cell BK266.out 4).trans rfl, (blk_cell BK266.out 5).trans rfl, (blk_cell BK266.out 6).trans rfl, (blk_cell BK266.out 7).trans rfl, (blk_cell BK266.out 8).trans rfl⟩ (fun hHeld => ?_); refine with_tabW spec_l20Pane.tab6 spec_l20Pane.bits6 (fun HT_ HW_ => ?_)
              generalize w44.drew = w47 at BK246 BK266 HI0 HK HB hHeld ⊢
              refine pure_ (i := 0) (N := some 34) (v := ?_) (a' := ?_) #[true, false, false, false, false, false, false, false, false] rfl rfl (any_of HT_.out (by kernel_rfl)) (fun _ _ _ h => h) (Or.inl ⟨by rfl, ?_⟩) ?_ ?_
              rotate_left
              · intro w'
                go_simp
                with_reducible rfl
              rotate_left
              · simp only [Act.put, List.setIfInBounds_toArray, List.set_cons_zero, List.set_cons_succ, i64_w, i32_w]
                rfl
              refine pure_ (i := 2) (N := some 36) (v := ?_) (a' := ?_) #[true, false, true, false, false, false, false, false, false] rfl rfl (any_of HT_.out (by kernel_rfl)) (fun _ _ _ h => h) (Or.inl ⟨by rfl, ?_⟩) ?_ ?_
              rotate_left
              · intro w'
                go_simp
                with_reducible rfl
              rotate_left
              · simp only [Act.put, List.setIfInBounds_toArray, List.set_cons_zero, List.set_cons_succ, i64_w, i32_w]
                rfl
              refine pure_ (i := 4) (N := some 38) (v := ?_) (a' := ?_) #[true, false, true, false, true, false, false, false, false] rfl rfl (any_of HT_.out (by kernel_rfl)) (fun _ _ _ h => h) (Or.inl ⟨by rfl, ?_⟩) ?_ ?_
              rotate_left
              · intro w'
                go_simp
                with_reducible rfl
              rotate_left
              · simp only [Act.put, List.setIfInBounds_toArray, List.set_cons_zero, List.set_cons_succ, i64_w, i32_w]
                rfl
              refine take_ (i := 1) (N := some 35) (v := ?_) (a' := ?_) #[true, true, true, false, true, false, false, false, false] rfl rfl (take_ofW HT_.out HW_.out (by kernel_rfl)) (fun _ _ _ h => h) (Or.inl ⟨by rfl, ?_⟩) hHeld ?_ ?_
              rotate_left
              · rintro w' ⟨s0, s1, s2, s3, s4, s5, s6, s7, s8⟩
                go_simp
                with_reducible rfl
              rotate_left
              · simp only [Act.put, List.setIfInBounds_toArray, List.set_cons_zero, List.set_cons_succ, i64_w, i32_w]
                rfl
              refine take_ (i := 3) (N := some 37) (v := ?_) (a' := ?_) #[true, true, true, true, true, false, false, false, false] rfl rfl (take_ofW HT_.out HW_.out (by kernel_rfl)) (fun _ _ _ h => h) (Or.inl ⟨by rfl, ?_⟩) hHeld ?_ ?_
              rotate_left
              · rintro w' ⟨s0, s1, s2, s3, s4, s5, s6, s7, s8⟩
                go_simp
                with_reducible rfl
              rotate_left
              · simp only [Act.put, List.setIfInBounds_toArray, List.set_cons_zero, List.set_cons_succ, i64_w, i32_w]
                rfl
              refine one_ (i := 5) (N := some 39) #[true, true, true, true, true, true, false, false, false] rfl rfl (one_of HT_.out (by kernel_rfl)) (by decide) (fun K hK => ?_)
              refine goes_ Try.func53 (by kernel_rfl) rfl #[.pointer (some ⟨g, 0, none⟩), .int .i64 3] (by rfl) rfl rfl (by (try simp only [List.map_toArray, List.map_cons, List.map_nil]); first | done | rfl | (simp only [List.length_drop, List.length_take]; rfl)) ?_
              with_reducible refine (spec_l20Rd_pick.calls kj10 g s0_0 t272 3 t273 t274 w0 _ ?side1 ?side2 A46.out).mono ?_
              (case side1 => repeat (first | (with_reducible first | exact HI0.out | apply IsS81.alloc | apply IsS81.drewN | apply IsS81.drew | apply IsS81.set_1 | refine IsS81.far ?_ NB0_246.out _ | refine IsS81.far ?_ NB0_266.out _) | exact HI0.out))
              (case side2 => repeat (first | (with_reducible first | exact HB.out | apply below_alloc | apply pw_below_drewN | apply below_drew1 | refine below_set ?_ (IsS81.ge HI0.out) | refine below_set ?_ GE246.out | refine below_set ?_ GE266.out) | exact HB.out))
              rintro e w48 ⟨rfl, hi, hb, hk⟩
              refine ⟨_, rfl, ?_⟩
              have n0_ := Aside0.mk (KeepBut.blk hk (g' := gb246) (o := .cells #[.int .i64 0, .int .i64 0, .int .i64 0, .int .i64 0, .int .i64 0, .int .i64 0, .int .i64 0, .int .i64 0, .int .i64 0] 89 (0, 0)) (by (with_reducible repeat (first | refine blk_drewN ?_ _ | refine blk_drew ?_ | refine blk_alloc ?_ _)); exact BK246.out) NB246_0.out (by simp))
              have n1_ := Aside0.mk (KeepBut.blk hk (g' := gb266) (o := .cells #[.int .i64 t247, .int .i64 ((rd_T26 y249 t252).f0), .int .i64 ((rd_T26 y249 t252).f1), .int .i64 x267003_10, .int .i64 x267004_10, .int .i64 t262, .int .i64 t263, .int .i64 t264, .int .i64 t265] 89 (0, 0)) (by (with_reducible repeat (first | refine blk_drewN ?_ _ | refine blk_drew ?_ | refine blk_alloc ?_ _)); exact BK266.out) NB266_0.out (by simp))
              have n2_ := Aside0.mk (KeepBut.trans (by repeat (first | (with_reducible first | exact HK.out | apply KeepBut.set_ | apply keep_drewN | apply keep_drew | apply keep_alloc | refine keep_far ?_ GW246.out _ | refine keep_far ?_ GW266.out _) | exact HK.out)) hk (.inl rfl))
              have n3_ := Aside0.mk (hb)
              have n4_ := Aside0.mk (hi)
              clear BK246
              clear BK266
              clear HK
              clear HB
              clear HI0
              have BK246 := n0_
              have BK266 := n1_
              have HK := n2_
              have HB := n3_
              have HI0 := n4_
              clear n0_ n1_ n2_ n3_ n4_
              (try clear hb)
              (try clear hb2)
              (try clear hk)
              (try clear hi)
              refine hK.out _ _ ⟨(blk_cell BK266.out 0).trans rfl, (blk_cell BK266.out 1).trans rfl, (blk_cell BK266.out 2).trans rfl, (blk_cell BK266.out 3).trans rfl, (blk_cell BK266.out 4).trans rfl, (blk_cell BK266.out 5).trans rfl, (blk_cell BK266.out 6).trans rfl, (blk_cell BK266.out 7).trans rfl, (blk_cell BK266.out 8).trans rfl⟩ (fun hHeld => ?_)
              clear hK K
              refine norm_ (a' := ?_) ?_ ?_
              rotate_left
              · show Act.put _ (some 39) _ = _
                simp only [Act.put, List.setIfInBounds_toArray, List.set_cons_zero, List.set_cons_succ, i64_w, i32_w]
                rfl
              refine pure_ (i := 6) (N := some 40) (v := ?_) (a' := ?_) #[true, true, true, true, true, true, true, false, false] rfl rfl (any_of HT_.out (by kernel_rfl)) (fun _ _ _ h => h) (Or.inl ⟨by rfl, ?_⟩) ?_ ?_
              rotate_left
              · intro w'
                go_simp
                with_reducible rfl
              rotate_left
              · simp only [Act.put, List.setIfInBounds_toArray, List.set_cons_zero, List.set_cons_succ, i64_w, i32_w]
                rfl
              refine pure_ (i := 7) (N := some 41) (v := ?_) (a' := ?_) #[true, true, true, true, true, true, true, true, false] rfl rfl (any_of HT_.out (by kernel_rfl)) (fun _ _ _ h => h) (Or.inl ⟨by rfl, ?_⟩) ?_ ?_
              rotate_left
              · intro w'
                go_simp
                with_reducible rfl
              rotate_left
              · simp only [Act.put, List.setIfInBounds_toArray, List.set_cons_zero, List.set_cons_succ, i64_w, i32_w]
                rfl
              refine last_ (i := 8) (N := none) #[true, true, true, true, true, true, true, true, true] rfl rfl (one_of HT_.out (by kernel_rfl)) (by decide) (fun K hK => ?_)
              have hs49 : w48.cell? ⟨gb266, 0, none⟩ = some (.int .i64 t247) := (blk_cell BK266.out 0).trans rfl
              have hfs49 := blk_frozen BK266.out 0
              have hns49_0 := NB246_266.out
              have hms49_0 := NB266_246.out
              have hs50 : w48.cell? ⟨gb266, 1, none⟩ = some (.int .i64 ((rd_T26 y249 t252).f0)) := (blk_cell BK266.out 1).trans rfl
              have hfs50 := blk_frozen BK266.out 1
              have hns50_0 := NB246_266.out
              have hms50_0 := NB266_246.out
              have hs51 : w48.cell? ⟨gb266, 2, none⟩ = some (.int .i64 ((rd_T26 y249 t252).f1)) := (blk_cell BK266.out 2).trans rfl
              have hfs51 := blk_frozen BK266.out 2
              have hns51_0 := NB246_266.out
              have hms51_0 := NB266_246.out
              have hs52 : w48.cell? ⟨gb266, 3, none⟩ = some (.int .i64 x267003_10) := (blk_cell BK266.out 3).trans rfl
              have hfs52 := blk_frozen BK266.out 3
              have hns52_0 := NB246_266.out
              have hms52_0 := NB266_246.out
              have hs53 : w48.cell? ⟨gb266, 4, none⟩ = some (.int .i64 x267004_10) := (blk_cell BK266.out 4).trans rfl
              have hfs53 := blk_frozen BK266.out 4
              have hns53_0 := NB246_266.out
              have hms53_0 := NB266_246.out
              have hs54 : w48.cell? ⟨gb266, 5, none⟩ = some (.int .i64 t262) := (blk_cell BK266.out 5).trans rfl
              have hfs54 := blk_frozen BK266.out 5
              have hns54_0 := NB246_266.out
              have hms54_0 := NB266_246.out
              have hs55 : w48.cell? ⟨gb266, 6, none⟩ = some (.int .i64 t263) := (blk_cell BK266.out 6).trans rfl
              have hfs55 := blk_frozen BK266.out 6
              have hns55_0 := NB246_266.out
              have hms55_0 := NB266_246.out
              have hs56 : w48.cell? ⟨gb266, 7, none⟩ = some (.int .i64 t264) := (blk_cell BK266.out 7).trans rfl
              have hfs56 := blk_frozen BK266.out 7
              have hns56_0 := NB246_266.out
              have hms56_0 := NB266_246.out
              have hs57 : w48.cell? ⟨gb266, 8, none⟩ = some (.int .i64 t265) := (blk_cell BK266.out 8).trans rfl
              have hfs57 := blk_frozen BK266.out 8
              have hns57_0 := NB246_266.out
              have hms57_0 := NB266_246.out
              refine skip_ (w1 := ?_) (by rfl) rfl ?_ ?_
              rotate_left
              · go_simp
                rfl
              refine hK.out _ _ ?_
              clear hK K
              refine done_ (done_of HT_.out (by kernel_rfl)) ?_
              try go_wp2
              go_meet
              case rel => exact ⟨_, (t274), (t247), (((rd_T26 y249 t252).f0)), (((rd_T26 y249 t252).f1)), (wrap64 (1 + t273)), (3), (0), (0), (0), (0), H', ⟨by have := HJ10.out; first | omega | exact Nat.le_refl _⟩, ⟨by (with_reducible repeat (first | refine blk_drewN ?_ _ | refine blk_drew ?_ | refine blk_alloc ?_ _)); refine blk_far ?_ NB246_266.out _; (with_reducible repeat (first | refine blk_drewN ?_ _ | refine blk_drew ?_ | refine blk_alloc ?_ _)); refine blk_far ?_ NB246_266.out _; (with_reducible repeat (first | refine blk_drewN ?_ _ | refine blk_drew ?_ | refine blk_alloc ?_ _)); refine blk_far ?_ NB246_266.out _; (with_reducible repeat (first | refine blk_drewN ?_ _ | refine blk_drew ?_ | refine blk_alloc ?_ _)); refine blk_far ?_ NB246_266.out _; (with_reducible repeat (first | refine blk_drewN ?_ _ | refine blk_drew ?_ | refine blk_alloc ?_ _)); refine blk_far ?_ NB246_266.out _; (with_reducible repeat (first | refine blk_drewN ?_ _ | refine blk_drew ?_ | refine blk_alloc ?_ _)); refine blk_far ?_ NB246_266.out _; (with_reducible repeat (first | refine blk_drewN ?_ _ | refine blk_drew ?_ | refine blk_alloc ?_ _)); refine blk_far ?_ NB246_266.out _; (with_reducible repeat (first | refine blk_drewN ?_ _ | refine blk_drew ?_ | refine blk_alloc ?_ _)); refine blk_far ?_ NB246_266.out _; (with_reducible repeat (first | refine blk_drewN ?_ _ | refine blk_drew ?_ | refine blk_alloc ?_ _)); refine blk_far ?_ NB246_266.out _; (with_reducible repeat (first | refine blk_drewN ?_ _ | refine blk_drew ?_ | refine blk_alloc ?_ _)); exact BK246.out⟩, ⟨by (with_reducible repeat (first | refine blk_drewN ?_ _ | refine blk_drew ?_ | refine blk_alloc ?_ _)); refine blk_put (cs := #[.int .i64 t247, .int .i64 ((rd_T26 y249 t252).f0), .int .i64 ((rd_T26 y249 t252).f1), .int .i64 (wrap64 (1 + t273)), .int .i64 3, .int .i64 0, .int .i64 0, .int .i64 0, .int .i64 t265]) ?_ 8 _ rfl; (with_reducible repeat (first | refine blk_drewN ?_ _ | refine blk_drew ?_ | refine blk_alloc ?_ _)); refine blk_put (cs := #[.int .i64 t247, .int .i64 ((rd_T26 y249 t252).f0), .int .i64 ((rd_T26 y249 t252).f1), .int .i64 (wrap64 (1 + t273)), .int .i64 3, .int .i64 0, .int .i64 0, .int .i64 t264, .int .i64 t265]) ?_ 7 _ rfl; (with_reducible repeat (first | refine blk_drewN ?_ _ | refine blk_drew ?_ | refine blk_alloc ?_ _)); refine blk_put (cs := #[.int .i64 t247, .int .i64 ((rd_T26 y249 t252).f0), .int .i64 ((rd_T26 y249 t252).f1), .int .i64 (wrap64 (1 + t273)), .int .i64 3, .int .i64 0, .int .i64 t263, .int .i64 t264, .int .i64 t265]) ?_ 6 _ rfl; (with_reducible repeat (first | refine blk_drewN ?_ _ | refine blk_drew ?_ | refine blk_alloc ?_ _)); refine blk_put (cs := #[.int .i64 t247, .int .i64 ((rd_T26 y249 t252).f0), .int .i64 ((rd_T26 y249 t252).f1), .int .i64 (wrap64 (1 + t273)), .int .i64 3, .int .i64 t262, .int .i64 t263, .int .i64 t264, .int .i64 t265]) ?_ 5 _ rfl; (with_reducible repeat (first | refine blk_drewN ?_ _ | refine blk_drew ?_ | refine blk_alloc ?_ _)); refine blk_put (cs := #[.int .i64 t247, .int .i64 ((rd_T26 y249 t252).f0), .int .i64 ((rd_T26 y249 t252).f1), .int .i64 (wrap64 (1 + t273)), .int .i64 x267004_10, .int .i64 t262, .int .i64 t263, .int .i64 t264, .int .i64 t265]) ?_ 4 _ rfl; (with_reducible repeat (first | refine blk_drewN ?_ _ | refine blk_drew ?_ | refine blk_alloc ?_ _)); refine blk_put (cs := #[.int .i64 t247, .int .i64 ((rd_T26 y249 t252).f0), .int .i64 ((rd_T26 y249 t252).f1), .int .i64 x267003_10, .int .i64 x267004_10, .int .i64 t262, .int .i64 t263, .int .i64 t264, .int .i64 t265]) ?_ 3 _ rfl; (with_reducible repeat (first | refine blk_drewN ?_ _ | refine blk_drew ?_ | refine blk_alloc ?_ _)); refine blk_put (cs := #[.int .i64 t247, .int .i64 ((rd_T26 y249 t252).f0), .int .i64 ((rd_T26 y249 t252).f1), .int .i64 x267003_10, .int .i64 x267004_10, .int .i64 t262, .int .i64 t263, .int .i64 t264, .int .i64 t265]) ?_ 2 _ rfl; (with_reducible repeat (first | refine blk_drewN ?_ _ | refine blk_drew ?_ | refine blk_alloc ?_ _)); refine blk_put (cs := #[.int .i64 t247, .int .i64 ((rd_T26 y249 t252).f0), .int .i64 ((rd_T26 y249 t252).f1), .int .i64 x267003_10, .int .i64 x267004_10, .int .i64 t262, .int .i64 t263, .int .i64 t264, .int .i64 t265]) ?_ 1 _ rfl; (with_reducible repeat (first | refine blk_drewN ?_ _ | refine blk_drew ?_ | refine blk_alloc ?_ _)); refine blk_put (cs := #[.int .i64 t247, .int .i64 ((rd_T26 y249 t252).f0), .int .i64 ((rd_T26 y249 t252).f1), .int .i64 x267003_10, .int .i64 x267004_10, .int .i64 t262, .int .i64 t263, .int .i64 t264, .int .i64 t265]) ?_ 0 _ rfl; (with_reducible repeat (first | refine blk_drewN ?_ _ | refine blk_drew ?_ | refine blk_alloc ?_ _)); exact BK266.out⟩, ⟨by repeat (first | (with_reducible first | exact HI0.out | apply IsS81.alloc | apply IsS81.drewN | apply IsS81.drew | apply IsS81.set_1 | refine IsS81.far ?_ NB0_246.out _ | refine IsS81.far ?_ NB0_266.out _) | exact HI0.out)⟩, ⟨by repeat (first | (with_reducible first | exact HK.out | apply KeepBut.set_ | apply keep_drewN | apply keep_drew | apply keep_alloc | refine keep_far ?_ GW246.out _ | refine keep_far ?_ GW266.out _) | exact HK.out)⟩, ⟨by repeat (first | (with_reducible first | exact HB.out | apply below_alloc | apply pw_below_drewN | apply below_drew1 | refine below_set ?_ (IsS81.ge HI0.out) | refine below_set ?_ GE246.out | refine below_set ?_ GE266.out) | exact HB.out)⟩⟩
            · rw [if_neg c45] at H
              have c45b0 : (t271 == 0) = false := beq_eq_false_iff_ne.mpr c45
              have c45b1 : (t271 != 0) = true := bne_iff_ne.mpr c45
              (first | rw [c45b0] | (simp only [i64_w, i32_w]; rw [c45b0]) | skip)
              have H' := Aside0.mk H
              clear H
              go_wp2
              go_meet
              case rel => exact ⟨_, (t272), (t247), (((rd_T26 y249 t252).f0)), (((rd_T26 y249 t252).f1)), (x267003_10), (x267004_10), (t262), (t263), (t264), (t265), H', ⟨by have := HJ10.out; first | omega | exact Nat.le_refl _⟩, ⟨by (with_reducible repeat (first | refine blk_drewN ?_ _ | refine blk_drew ?_ | refine blk_alloc ?_ _)); exact BK246.out⟩, ⟨by (with_reducible repeat (first | refine blk_drewN ?_ _ | refine blk_drew ?_ | refine blk_alloc ?_ _)); exact BK266.out⟩, ⟨by repeat (first | (with_reducible first | exact HI0.out | apply IsS81.alloc | apply IsS81.drewN | apply IsS81.drew | apply IsS81.set_1 | refine IsS81.far ?_ NB0_246.out _ | refine IsS81.far ?_ NB0_266.out _) | exact HI0.out)⟩, ⟨by repeat (first | (with_reducible first | exact HK.out | apply KeepBut.set_ | apply keep_drewN | apply keep_drew | apply keep_alloc | refine keep_far ?_ GW246.out _ | refine keep_far ?_ GW266.out _) | exact HK.out)⟩, ⟨by repeat (first | (with_reducible first | exact HB.out | apply below_alloc | apply pw_below_drewN | apply below_drew1 | refine below_set ?_ (IsS81.ge HI0.out) | refine below_set ?_ GE246.out | refine below_set ?_ GE266.out) | exact HB.out)⟩⟩
          case rest =>
            clear HC43
            try clear hx1
            try clear c2
            try clear p2
            try clear qi2
            try clear c3
            try clear c4
            try clear c5
            try clear c6
            try clear p6
            try clear qi25
            try clear c35
            try clear c35b0
            try clear c35b1
            try clear c37
            try clear c38
            try clear c45
            try clear c45b0
            try clear c45b1
            try clear c53
            try clear c54
            try clear hcz39_0
            try clear hcz39_1
            try clear hcz39_2
            try clear hcz39_3
            try clear hcz39_4
            try clear hcz39_5
            try clear hcz39_6
            try clear hcz39_7
            try clear hcz39_8
            try clear hcz41_0
            try clear hcz41_1
            try clear hcz41_2
            try clear hcz41_3
            try clear hcz41_4
            try clear hcz41_5
            try clear hcz41_6
            try clear hcz41_7
            try clear hcz41_8
            try clear hfz39_0
            try clear hfz39_1
            try clear hfz39_2
            try clear hfz39_3
            try clear hfz39_4
            try clear hfz39_5
            try clear hfz39_6
            try clear hfz39_7
            try clear hfz39_8
            try clear hfz41_0
            try clear hfz41_1
            try clear hfz41_2
            try clear hfz41_3
            try clear hfz41_4
            try clear hfz41_5
            try clear hfz41_6
            try clear hfz41_7
            try clear hfz41_8
            try clear p2
            try clear p6
            obtain ⟨kq, x1001_42, x267000_42, x267001_42, x267002_42, x267003_42, x267004_42, x267005_42, x267006_42, x267007_42, x267008_42, HA, HJ42, BK246, BK266, HI0, HK, HB⟩ := hcut
            cases kq with
            | zero => exact absurd HA.out (by simp [spec_l20Pane.j1])
            | succ kj42 =>
              have H := HA.out
              clear HA
              simp only [spec_l20Pane.j1] at H
              replace H := Option.bind_eq_some_iff.mp H
              obtain ⟨⟨t275, t276⟩, A580, H⟩ := H
              replace H : (if t275 > 0 then (some (x267000_42, x267001_42, x267002_42, x267003_42, x267004_42, x267005_42, x267006_42, x267007_42, x267008_42, t276)) else ((spec_l20Rd_pick.f kj42 s0_0 t276 5).bind fun bt277 => (if bt277.1 = 0 then ((some (([(-1), 4] : List Int) : List Int)).bind fun y279 => ((spec_l20Rd_pick.f kj42 s0_0 bt277.2 2).bind fun bt282 => (if 0 ≤ bt282.1 then (if bt282.1 < (y279.length : Int) then (some (rd y279 bt282.1, x267001_42, x267002_42, x267003_42, x267004_42, x267005_42, x267006_42, x267007_42, x267008_42, bt282.2)) else (none)) else (none)))) else (if bt277.1 = 1 then ((spec_l20Win.f kj42 s0_0 bt277.2 1).bind fun bt285 => (some (x267000_42, bt285.1, bt285.2.1, x267003_42, x267004_42, x267005_42, x267006_42, x267007_42, x267008_42, bt285.2.2))) else (if bt277.1 = 2 then ((some (([(-1), 0, 1, 1500, 1501] : List Int) : List Int)).bind fun y288 => ((spec_l20Rd_pick.f kj42 s0_0 bt277.2 5).bind fun bt291 => (if 0 ≤ bt291.1 then (if bt291.1 < (y288.length : Int) then (some (x267000_42, x267001_42, x267002_42, rd y288 bt291.1, x267004_42, x267005_42, x267006_42, x267007_42, x267008_42, bt291.2)) else (none)) else (none)))) else (if bt277.1 = 3 then ((spec_l20Rd_pick.f kj42 s0_0 bt277.2 5).bind fun bt294 => (some (x267000_42, x267001_42, x267002_42, x267003_42, bt294.1, x267005_42, x267006_42, x267007_42, x267008_42, bt294.2))) else ((spec_l20Agg.f kj42 s0_0 bt277.2 1).bind fun bt296 => (some (x267000_42, x267001_42, x267002_42, x267003_42, x267004_42, bt296.1, bt296.2.1, bt296.2.2.1, bt296.2.2.2.1, bt296.2.2.2.2))))))))) = some (r1, r2, r3, r4, r5, r6, r7, r8, r9, r10) := H
              have A58 := Aside0.mk A580
              clear A580
              by_cases c59 : t275 > 0
              · rw [if_pos c59] at H
                have c59b0 : decide (0 < t275) = true := decide_eq_true c59
                clear c59
                simp only [Option.some.injEq, Prod.mk.injEq] at H
                obtain ⟨rfl, rfl, rfl, rfl, rfl, rfl, rfl, rfl, rfl, rfl⟩ := H
                go_wp2_with (first | ((with_reducible refine gate_callee (f := 53) rfl ?_); refine goesL_ (some 44) rfl rfl Try.func53 (by kernel_rfl) rfl #[.pointer (some ⟨g, 0, none⟩), .int .i64 a1] rfl (by (try simp only [List.map_toArray, List.map_cons, List.map_nil]); first | done | rfl | (simp only [List.length_drop, List.length_take]; rfl)) ?_; (with_reducible refine (spec_l20Rd_pick.calls kj42 g s0_0 x1001_42 a1 t275 t276 w0 _ ?side1 ?side2 A58.out).mono ?_); (case side1 => repeat (first | (with_reducible first | exact HI0.out | apply IsS81.alloc | apply IsS81.drewN | apply IsS81.drew | apply IsS81.set_1 | refine IsS81.far ?_ NB0_246.out _ | refine IsS81.far ?_ NB0_266.out _) | exact HI0.out)); (case side2 => repeat (first | (with_reducible first | exact HB.out | apply below_alloc | apply pw_below_drewN | apply below_drew1 | refine below_set ?_ (IsS81.ge HI0.out) | refine below_set ?_ GE246.out | refine below_set ?_ GE266.out) | exact HB.out)); rintro e w60 ⟨rfl, hi, hb, hk⟩; refine ⟨_, rfl, ?_⟩; have n0_ := Aside0.mk (KeepBut.blk hk (g' := gb246) (o := .cells #[.int .i64 0, .int .i64 0, .int .i64 0, .int .i64 0, .int .i64 0, .int .i64 0, .int .i64 0, .int .i64 0, .int .i64 0] 89 (0, 0)) (by (with_reducible repeat (first | refine blk_drewN ?_ _ | refine blk_drew ?_ | refine blk_alloc ?_ _)); exact BK246.out) NB246_0.out (by simp)); have n1_ := Aside0.mk (KeepBut.blk hk (g' := gb266) (o := .cells #[.int .i64 x267000_42, .int .i64 x267001_42, .int .i64 x267002_42, .int .i64 x267003_42, .int .i64 x267004_42, .int .i64 x267005_42, .int .i64 x267006_42, .int .i64 x267007_42, .int .i64 x267008_42] 89 (0, 0)) (by (with_reducible repeat (first | refine blk_drewN ?_ _ | refine blk_drew ?_ | refine blk_alloc ?_ _)); exact BK266.out) NB266_0.out (by simp)); have n2_ := Aside0.mk (KeepBut.trans (by repeat (first | (with_reducible first | exact HK.out | apply KeepBut.set_ | apply keep_drewN | apply keep_drew | apply keep_alloc | refine keep_far ?_ GW246.out _ | refine keep_far ?_ GW266.out _) | exact HK.out)) hk (.inl rfl)); have n3_ := Aside0.mk (hb); have n4_ := Aside0.mk (hi); clear BK246; clear BK266; clear HK; clear HB; clear HI0; have BK246 := n0_; have BK266 := n1_; have HK := n2_; have HB := n3_; have HI0 := n4_; clear n0_ n1_ n2_ n3_ n4_; (try clear hb); (try clear hb2); (try clear hk); (try clear hi); have hnb61 := NB266_246.out; have hnc61 := NB246_266.out; have hnb62 := NB266_0.out; have hnc62 := NB0_266.out; have hcz63_0 : w60.cell? ⟨gb266, 0, none⟩ = some (.int .i64 x267000_42) := (blk_cell BK266.out 0).trans rfl; have hcz63_1 : w60.cell? ⟨gb266, 1, none⟩ = some (.int .i64 x267001_42) := (blk_cell BK266.out 1).trans rfl; have hcz63_2 : w60.cell? ⟨gb266, 2, none⟩ = some (.int .i64 x267002_42) := (blk_cell BK266.out 2).trans rfl; have hcz63_3 : w60.cell? ⟨gb266, 3, none⟩ = some (.int .i64 x267003_42) := (blk_cell BK266.out 3).trans rfl; have hcz63_4 : w60.cell? ⟨gb266, 4, none⟩ = some (.int .i64 x267004_42) := (blk_cell BK266.out 4).trans rfl; have hcz63_5 : w60.cell? ⟨gb266, 5, none⟩ = some (.int .i64 x267005_42) := (blk_cell BK266.out 5).trans rfl; have hcz63_6 : w60.cell? ⟨gb266, 6, none⟩ = some (.int .i64 x267006_42) := (blk_cell BK266.out 6).trans rfl; have hcz63_7 : w60.cell? ⟨gb266, 7, none⟩ = some (.int .i64 x267007_42) := (blk_cell BK266.out 7).trans rfl; have hcz63_8 : w60.cell? ⟨gb266, 8, none⟩ = some (.int .i64 x267008_42) := (blk_cell BK266.out 8).trans rfl; have hfz63_0 := blk_frozen BK266.out 0; have hfz63_1 := blk_frozen BK266.out 1; have hfz63_2 := blk_frozen BK266.out 2; have hfz63_3 := blk_frozen BK266.out 3; have hfz63_4 := blk_frozen BK266.out 4; have hfz63_5 := blk_frozen BK266.out 5; have hfz63_6 := blk_frozen BK266.out 6; have hfz63_7 := blk_frozen BK266.out 7; have hfz63_8 := blk_frozen BK266.out 8; have hnb64 := NB246_0.out; have hnc64 := NB0_246.out; have hcz65_0 : w60.cell? ⟨gb246, 0, none⟩ = some (.int .i64 0) := (blk_cell BK246.out 0).trans rfl; have hcz65_1 : w60.cell? ⟨gb246, 1, none⟩ = some (.int .i64 0) := (blk_cell BK246.out 1).trans rfl; have hcz65_2 : w60.cell? ⟨gb246, 2, none⟩ = some (.int .i64 0) := (blk_cell BK246.out 2).trans rfl; have hcz65_3 : w60.cell? ⟨gb246, 3, none⟩ = some (.int .i64 0) := (blk_cell BK246.out 3).trans rfl; have hcz65_4 : w60.cell? ⟨gb246, 4, none⟩ = some (.int .i64 0) := (blk_cell BK246.out 4).trans rfl; have hcz65_5 : w60.cell? ⟨gb246, 5, none⟩ = some (.int .i64 0) := (blk_cell BK246.out 5).trans rfl; have hcz65_6 : w60.cell? ⟨gb246, 6, none⟩ = some (.int .i64 0) := (blk_cell BK246.out 6).trans rfl; have hcz65_7 : w60.cell? ⟨gb246, 7, none⟩ = some (.int .i64 0) := (blk_cell BK246.out 7).trans rfl; have hcz65_8 : w60.cell? ⟨gb246, 8, none⟩ = some (.int .i64 0) := (blk_cell BK246.out 8).trans rfl; have hfz65_0 := blk_frozen BK246.out 0; have hfz65_1 := blk_frozen BK246.out 1; have hfz65_2 := blk_frozen BK246.out 2; have hfz65_3 := blk_frozen BK246.out 3; have hfz65_4 := blk_frozen BK246.out 4; have hfz65_5 := blk_frozen BK246.out 5; have hfz65_6 := blk_frozen BK246.out 6; have hfz65_7 := blk_frozen BK246.out 7; have hfz65_8 := blk_frozen BK246.out 8))
                refine bodyPost_ret (results_cell_row rfl _ _ gb246 89 #[.int .i64 x267000_42, .int .i64 x267001_42, .int .i64 x267002_42, .int .i64 x267003_42, .int .i64 x267004_42, .int .i64 x267005_42, .int .i64 x267006_42, .int .i64 x267007_42, .int .i64 x267008_42] (0, 0) _ rfl (by (with_reducible repeat (first | refine blk_drewN ?_ _ | refine blk_drew ?_ | refine blk_alloc ?_ _)); refine blk_put (cs := #[.int .i64 x267000_42, .int .i64 x267001_42, .int .i64 x267002_42, .int .i64 x267003_42, .int .i64 x267004_42, .int .i64 x267005_42, .int .i64 x267006_42, .int .i64 x267007_42, .int .i64 0]) ?_ 8 _ rfl; (with_reducible repeat (first | refine blk_drewN ?_ _ | refine blk_drew ?_ | refine blk_alloc ?_ _)); refine blk_put (cs := #[.int .i64 x267000_42, .int .i64 x267001_42, .int .i64 x267002_42, .int .i64 x267003_42, .int .i64 x267004_42, .int .i64 x267005_42, .int .i64 x267006_42, .int .i64 0, .int .i64 0]) ?_ 7 _ rfl; (with_reducible repeat (first | refine blk_drewN ?_ _ | refine blk_drew ?_ | refine blk_alloc ?_ _)); refine blk_put (cs := #[.int .i64 x267000_42, .int .i64 x267001_42, .int .i64 x267002_42, .int .i64 x267003_42, .int .i64 x267004_42, .int .i64 x267005_42, .int .i64 0, .int .i64 0, .int .i64 0]) ?_ 6 _ rfl; (with_reducible repeat (first | refine blk_drewN ?_ _ | refine blk_drew ?_ | refine blk_alloc ?_ _)); refine blk_put (cs := #[.int .i64 x267000_42, .int .i64 x267001_42, .int .i64 x267002_42, .int .i64 x267003_42, .int .i64 x267004_42, .int .i64 0, .int .i64 0, .int .i64 0, .int .i64 0]) ?_ 5 _ rfl; (with_reducible repeat (first | refine blk_drewN ?_ _ | refine blk_drew ?_ | refine blk_alloc ?_ _)); refine blk_put (cs := #[.int .i64 x267000_42, .int .i64 x267001_42, .int .i64 x267002_42, .int .i64 x267003_42, .int .i64 0, .int .i64 0, .int .i64 0, .int .i64 0, .int .i64 0]) ?_ 4 _ rfl; (with_reducible repeat (first | refine blk_drewN ?_ _ | refine blk_drew ?_ | refine blk_alloc ?_ _)); refine blk_put (cs := #[.int .i64 x267000_42, .int .i64 x267001_42, .int .i64 x267002_42, .int .i64 0, .int .i64 0, .int .i64 0, .int .i64 0, .int .i64 0, .int .i64 0]) ?_ 3 _ rfl; (with_reducible repeat (first | refine blk_drewN ?_ _ | refine blk_drew ?_ | refine blk_alloc ?_ _)); refine blk_put (cs := #[.int .i64 x267000_42, .int .i64 x267001_42, .int .i64 0, .int .i64 0, .int .i64 0, .int .i64 0, .int .i64 0, .int .i64 0, .int .i64 0]) ?_ 2 _ rfl; (with_reducible repeat (first | refine blk_drewN ?_ _ | refine blk_drew ?_ | refine blk_alloc ?_ _)); refine blk_put (cs := #[.int .i64 x267000_42, .int .i64 0, .int .i64 0, .int .i64 0, .int .i64 0, .int .i64 0, .int .i64 0, .int .i64 0, .int .i64 0]) ?_ 1 _ rfl; (with_reducible repeat (first | refine blk_drewN ?_ _ | refine blk_drew ?_ | refine blk_alloc ?_ _)); refine blk_put (cs := #[.int .i64 0, .int .i64 0, .int .i64 0, .int .i64 0, .int .i64 0, .int .i64 0, .int .i64 0, .int .i64 0, .int .i64 0]) ?_ 0 _ rfl; (with_reducible repeat (first | refine blk_drewN ?_ _ | refine blk_drew ?_ | refine blk_alloc ?_ _)); exact BK246.out) Try.underlying89 rfl (by kernel_rfl)) rfl ?_
                exact ⟨by first | rfl | (simp [errW_none, errW_some] <;> rfl) | (simp [*, errW_none, errW_some] <;> rfl), by repeat (first | (with_reducible first | exact HI0.out | apply IsS81.alloc | apply IsS81.drewN | apply IsS81.drew | apply IsS81.set_1 | refine IsS81.far ?_ NB0_246.out _ | refine IsS81.far ?_ NB0_266.out _) | exact HI0.out), by repeat (first | (with_reducible first | exact HB.out | apply below_alloc | apply pw_below_drewN | apply below_drew1 | refine below_set ?_ (IsS81.ge HI0.out) | refine below_set ?_ GE246.out | refine below_set ?_ GE266.out) | exact HB.out), by repeat (first | (with_reducible first | exact HK.out | apply KeepBut.set_ | apply keep_drewN | apply keep_drew | apply keep_alloc | refine keep_far ?_ GW246.out _ | refine keep_far ?_ GW266.out _) | exact HK.out)⟩
              · rw [if_neg c59] at H
                have c59b0 : decide (0 < t275) = false := decide_eq_false c59
                clear c59
                replace H := Option.bind_eq_some_iff.mp H
                obtain ⟨⟨t277, t278⟩, A660, H⟩ := H
                replace H : (if t277 = 0 then ((some (([(-1), 4] : List Int) : List Int)).bind fun y279 => ((spec_l20Rd_pick.f kj42 s0_0 t278 2).bind fun bt282 => (if 0 ≤ bt282.1 then (if bt282.1 < (y279.length : Int) then (some (rd y279 bt282.1, x267001_42, x267002_42, x267003_42, x267004_42, x267005_42, x267006_42, x267007_42, x267008_42, bt282.2)) else (none)) else (none)))) else (if t277 = 1 then ((spec_l20Win.f kj42 s0_0 t278 1).bind fun bt285 => (some (x267000_42, bt285.1, bt285.2.1, x267003_42, x267004_42, x267005_42, x267006_42, x267007_42, x267008_42, bt285.2.2))) else (if t277 = 2 then ((some (([(-1), 0, 1, 1500, 1501] : List Int) : List Int)).bind fun y288 => ((spec_l20Rd_pick.f kj42 s0_0 t278 5).bind fun bt291 => (if 0 ≤ bt291.1 then (if bt291.1 < (y288.length : Int) then (some (x267000_42, x267001_42, x267002_42, rd y288 bt291.1, x267004_42, x267005_42, x267006_42, x267007_42, x267008_42, bt291.2)) else (none)) else (none)))) else (if t277 = 3 then ((spec_l20Rd_pick.f kj42 s0_0 t278 5).bind fun bt294 => (some (x267000_42, x267001_42, x267002_42, x267003_42, bt294.1, x267005_42, x267006_42, x267007_42, x267008_42, bt294.2))) else ((spec_l20Agg.f kj42 s0_0 t278 1).bind fun bt296 => (some (x267000_42, x267001_42, x267002_42, x267003_42, x267004_42, bt296.1, bt296.2.1, bt296.2.2.1, bt296.2.2.2.1, bt296.2.2.2.2))))))) = some (r1, r2, r3, r4, r5, r6, r7, r8, r9, r10) := H
                have A66 := Aside0.mk A660
                clear A660
                by_cases c67 : t277 = 0
                · rw [if_pos c67] at H
                  have c67b0 : (t277 == 0) = true := beq_iff_eq.mpr c67
                  have c67b1 : (t277 != 0) = false := bne_eq_false_iff_eq.mpr c67
                  clear c67
                  obtain ⟨y279, hy279⟩ : ∃ y_ : List Int, y_ = (([(-1), 4] : List Int)) := ⟨_, rfl⟩
                  replace H : ((spec_l20Rd_pick.f kj42 s0_0 t278 2).bind fun bt282 => (if 0 ≤ bt282.1 then (if bt282.1 < (y279.length : Int) then (some (rd y279 bt282.1, x267001_42, x267002_42, x267003_42, x267004_42, x267005_42, x267006_42, x267007_42, x267008_42, bt282.2)) else (none)) else (none))) = some (r1, r2, r3, r4, r5, r6, r7, r8, r9, r10) := by first | (rw [hy279]; with_reducible exact H) | (have H2_ := (Option.bind_some _ _).symm.trans H; rw [hy279]; with_reducible exact H2_) | (have H2_ := (Option.bind_some _ _).symm.trans H; with_reducible exact H2_) | with_reducible exact H | (rw [hy279]; exact H) | exact H
                  have Ny279 := Aside0.mk hy279
                  clear hy279
                  replace H := Option.bind_eq_some_iff.mp H
                  obtain ⟨⟨t282, t283⟩, A680, H⟩ := H
                  replace H : (if 0 ≤ t282 then (if t282 < (y279.length : Int) then (some (rd y279 t282, x267001_42, x267002_42, x267003_42, x267004_42, x267005_42, x267006_42, x267007_42, x267008_42, t283)) else (none)) else (none)) = some (r1, r2, r3, r4, r5, r6, r7, r8, r9, r10) := H
                  have A68 := Aside0.mk A680
                  clear A680
                  by_cases c69 : 0 ≤ t282
                  · rw [if_pos c69] at H
                    have c69b0 : decide (0 ≤ t282) = true := decide_eq_true c69
                    clear c69
                    by_cases c70 : t282 < (y279.length : Int)
                    · rw [if_pos c70] at H
                      have c70b0 : decide (t282 < (y279.length : Int)) = true := decide_eq_true c70
                      clear c70
                      simp only [Option.some.injEq, Prod.mk.injEq] at H
                      obtain ⟨rfl, rfl, rfl, rfl, rfl, rfl, rfl, rfl, rfl, rfl⟩ := H
                      go_wp2_with (first | ((with_reducible refine gate_callee (f := 53) rfl ?_); refine goesL_ (some 44) rfl rfl Try.func53 (by kernel_rfl) rfl #[.pointer (some ⟨g, 0, none⟩), .int .i64 a1] rfl (by (try simp only [List.map_toArray, List.map_cons, List.map_nil]); first | done | rfl | (simp only [List.length_drop, List.length_take]; rfl)) ?_; (with_reducible refine (spec_l20Rd_pick.calls kj42 g s0_0 x1001_42 a1 t275 t276 w0 _ ?side1 ?side2 A58.out).mono ?_); (case side1 => repeat (first | (with_reducible first | exact HI0.out | apply IsS81.alloc | apply IsS81.drewN | apply IsS81.drew | apply IsS81.set_1 | refine IsS81.far ?_ NB0_246.out _ | refine IsS81.far ?_ NB0_266.out _) | exact HI0.out)); (case side2 => repeat (first | (with_reducible first | exact HB.out | apply below_alloc | apply pw_below_drewN | apply below_drew1 | refine below_set ?_ (IsS81.ge HI0.out) | refine below_set ?_ GE246.out | refine below_set ?_ GE266.out) | exact HB.out)); rintro e w71 ⟨rfl, hi, hb, hk⟩; refine ⟨_, rfl, ?_⟩; have n0_ := Aside0.mk (KeepBut.blk hk (g' := gb246) (o := .cells #[.int .i64 0, .int .i64 0, .int .i64 0, .int .i64 0, .int .i64 0, .int .i64 0, .int .i64 0, .int .i64 0, .int .i64 0] 89 (0, 0)) (by (with_reducible repeat (first | refine blk_drewN ?_ _ | refine blk_drew ?_ | refine blk_alloc ?_ _)); exact BK246.out) NB246_0.out (by simp)); have n1_ := Aside0.mk (KeepBut.blk hk (g' := gb266) (o := .cells #[.int .i64 x267000_42, .int .i64 x267001_42, .int .i64 x267002_42, .int .i64 x267003_42, .int .i64 x267004_42, .int .i64 x267005_42, .int .i64 x267006_42, .int .i64 x267007_42, .int .i64 x267008_42] 89 (0, 0)) (by (with_reducible repeat (first | refine blk_drewN ?_ _ | refine blk_drew ?_ | refine blk_alloc ?_ _)); exact BK266.out) NB266_0.out (by simp)); have n2_ := Aside0.mk (KeepBut.trans (by repeat (first | (with_reducible first | exact HK.out | apply KeepBut.set_ | apply keep_drewN | apply keep_drew | apply keep_alloc | refine keep_far ?_ GW246.out _ | refine keep_far ?_ GW266.out _) | exact HK.out)) hk (.inl rfl)); have n3_ := Aside0.mk (hb); have n4_ := Aside0.mk (hi); clear BK246; clear BK266; clear HK; clear HB; clear HI0; have BK246 := n0_; have BK266 := n1_; have HK := n2_; have HB := n3_; have HI0 := n4_; clear n0_ n1_ n2_ n3_ n4_; (try clear hb); (try clear hb2); (try clear hk); (try clear hi)) | ((with_reducible refine gate_callee (f := 53) rfl ?_); refine goesL_ (some 48) rfl rfl Try.func53 (by kernel_rfl) rfl #[.pointer (some ⟨g, 0, none⟩), .int .i64 5] rfl (by (try simp only [List.map_toArray, List.map_cons, List.map_nil]); first | done | rfl | (simp only [List.length_drop, List.length_take]; rfl)) ?_; (with_reducible refine (spec_l20Rd_pick.calls kj42 g s0_0 t276 5 t277 t278 w0 _ ?side1 ?side2 A66.out).mono ?_); (case side1 => repeat (first | (with_reducible first | exact HI0.out | apply IsS81.alloc | apply IsS81.drewN | apply IsS81.drew | apply IsS81.set_1 | refine IsS81.far ?_ NB0_246.out _ | refine IsS81.far ?_ NB0_266.out _) | exact HI0.out)); (case side2 => repeat (first | (with_reducible first | exact HB.out | apply below_alloc | apply pw_below_drewN | apply below_drew1 | refine below_set ?_ (IsS81.ge HI0.out) | refine below_set ?_ GE246.out | refine below_set ?_ GE266.out) | exact HB.out)); rintro e w72 ⟨rfl, hi, hb, hk⟩; refine ⟨_, rfl, ?_⟩; have n0_ := Aside0.mk (KeepBut.blk hk (g' := gb246) (o := .cells #[.int .i64 0, .int .i64 0, .int .i64 0, .int .i64 0, .int .i64 0, .int .i64 0, .int .i64 0, .int .i64 0, .int .i64 0] 89 (0, 0)) (by (with_reducible repeat (first | refine blk_drewN ?_ _ | refine blk_drew ?_ | refine blk_alloc ?_ _)); exact BK246.out) NB246_0.out (by simp)); have n1_ := Aside0.mk (KeepBut.blk hk (g' := gb266) (o := .cells #[.int .i64 x267000_42, .int .i64 x267001_42, .int .i64 x267002_42, .int .i64 x267003_42, .int .i64 x267004_42, .int .i64 x267005_42, .int .i64 x267006_42, .int .i64 x267007_42, .int .i64 x267008_42] 89 (0, 0)) (by (with_reducible repeat (first | refine blk_drewN ?_ _ | refine blk_drew ?_ | refine blk_alloc ?_ _)); exact BK266.out) NB266_0.out (by simp)); have n2_ := Aside0.mk (KeepBut.trans (by repeat (first | (with_reducible first | exact HK.out | apply KeepBut.set_ | apply keep_drewN | apply keep_drew | apply keep_alloc | refine keep_far ?_ GW246.out _ | refine keep_far ?_ GW266.out _) | exact HK.out)) hk (.inl rfl)); have n3_ := Aside0.mk (hb); have n4_ := Aside0.mk (hi); clear BK246; clear BK266; clear HK; clear HB; clear HI0; have BK246 := n0_; have BK266 := n1_; have HK := n2_; have HB := n3_; have HI0 := n4_; clear n0_ n1_ n2_ n3_ n4_; (try clear hb); (try clear hb2); (try clear hk); (try clear hi)) | ((with_reducible refine gate_dst (N := 54) rfl ?_); refine Kd.R_lit (Kd.int .i64) _ 3 ?hg (N := 54) ?hd (xs := ([(-1), 4] : List Int)) (inner := [.int .i64 (-1), .int .i64 4]) (ok := fun _ => True) (okp := fun _ => True) ?hr ?hp (fun _ hk => hk) trivial (Below.refl _ _) (Nat.le_refl _) (by simp) ?_; (case hd => rfl); (case hg => rfl); (case hr => first | (go_simp; done) | (go_simp; rfl)); (case hp => exact (Reps.one (show Kd.M (Kd.int .i64) _ _ _ (-1) [.int .i64 (-1)] from rfl) (Reps.one (show Kd.M (Kd.int .i64) _ _ _ 4 [.int .i64 4] from rfl) (Reps.none _ _)))); intro v280 w73 ho74 hb hg_ hnew_; clear hg_ hnew_; (first | rw [← Ny279.out] at ho74 | (simp only [Int.reduceToNat] at ho74; rw [← Ny279.out] at ho74)); have n0_ := Aside0.mk (Kd.R_lower ho74 (keep_size (w := w) (g := g) (row := none) (by repeat (first | (with_reducible first | exact HK.out | apply KeepBut.set_ | apply keep_drewN | apply keep_drew | apply keep_alloc | refine keep_far ?_ GW246.out _ | refine keep_far ?_ GW266.out _) | exact HK.out)))); have n1_ := Aside0.mk (blk_below (g := gb246) (o := .cells #[.int .i64 0, .int .i64 0, .int .i64 0, .int .i64 0, .int .i64 0, .int .i64 0, .int .i64 0, .int .i64 0, .int .i64 0] 89 (0, 0)) (by (with_reducible repeat (first | refine blk_drewN ?_ _ | refine blk_drew ?_ | refine blk_alloc ?_ _)); exact BK246.out) hb); have n2_ := Aside0.mk (blk_below (g := gb266) (o := .cells #[.int .i64 x267000_42, .int .i64 x267001_42, .int .i64 x267002_42, .int .i64 x267003_42, .int .i64 x267004_42, .int .i64 x267005_42, .int .i64 x267006_42, .int .i64 x267007_42, .int .i64 x267008_42] 89 (0, 0)) (by (with_reducible repeat (first | refine blk_drewN ?_ _ | refine blk_drew ?_ | refine blk_alloc ?_ _)); exact BK266.out) hb); have n3_ := Aside0.mk (IsS81.below (by repeat (first | (with_reducible first | exact HI0.out | apply IsS81.alloc | apply IsS81.drewN | apply IsS81.drew | apply IsS81.set_1 | refine IsS81.far ?_ NB0_246.out _ | refine IsS81.far ?_ NB0_266.out _) | exact HI0.out)) hb); have n4_ := Aside0.mk (KeepBut.trans (by repeat (first | (with_reducible first | exact HK.out | apply KeepBut.set_ | apply keep_drewN | apply keep_drew | apply keep_alloc | refine keep_far ?_ GW246.out _ | refine keep_far ?_ GW266.out _) | exact HK.out)) (KeepBut.of_below hb g none) (.inl rfl)); have n5_ := Aside0.mk (below_step (by repeat (first | (with_reducible first | exact HB.out | apply below_alloc | apply pw_below_drewN | apply below_drew1 | refine below_set ?_ (IsS81.ge HI0.out) | refine below_set ?_ GE246.out | refine below_set ?_ GE266.out) | exact HB.out)) hb); clear BK246; clear BK266; clear HI0; clear HK; clear HB; have HO281 := n0_; have BK246 := n1_; have BK266 := n2_; have HI0 := n3_; have HK := n4_; have HB := n5_; clear n0_ n1_ n2_ n3_ n4_ n5_; clear hb ho74) | ((with_reducible refine gate_callee (f := 53) rfl ?_); refine goesL_ (some 56) rfl rfl Try.func53 (by kernel_rfl) rfl #[.pointer (some ⟨g, 0, none⟩), .int .i64 2] rfl (by (try simp only [List.map_toArray, List.map_cons, List.map_nil]); first | done | rfl | (simp only [List.length_drop, List.length_take]; rfl)) ?_; (with_reducible refine (spec_l20Rd_pick.calls kj42 g s0_0 t278 2 t282 t283 w0 _ ?side1 ?side2 A68.out).mono ?_); (case side1 => repeat (first | (with_reducible first | exact HI0.out | apply IsS81.alloc | apply IsS81.drewN | apply IsS81.drew | apply IsS81.set_1 | refine IsS81.far ?_ NB0_246.out _ | refine IsS81.far ?_ NB0_266.out _) | exact HI0.out)); (case side2 => repeat (first | (with_reducible first | exact HB.out | apply below_alloc | apply pw_below_drewN | apply below_drew1 | refine below_set ?_ (IsS81.ge HI0.out) | refine below_set ?_ GE246.out | refine below_set ?_ GE266.out) | exact HB.out)); rintro e w75 ⟨rfl, hi, hb, hk⟩; refine ⟨_, rfl, ?_⟩; have n0_ := Aside0.mk (KeepBut.blk hk (g' := gb246) (o := .cells #[.int .i64 0, .int .i64 0, .int .i64 0, .int .i64 0, .int .i64 0, .int .i64 0, .int .i64 0, .int .i64 0, .int .i64 0] 89 (0, 0)) (by (with_reducible repeat (first | refine blk_drewN ?_ _ | refine blk_drew ?_ | refine blk_alloc ?_ _)); exact BK246.out) NB246_0.out (by simp)); have n1_ := Aside0.mk (KeepBut.blk hk (g' := gb266) (o := .cells #[.int .i64 x267000_42, .int .i64 x267001_42, .int .i64 x267002_42, .int .i64 x267003_42, .int .i64 x267004_42, .int .i64 x267005_42, .int .i64 x267006_42, .int .i64 x267007_42, .int .i64 x267008_42] 89 (0, 0)) (by (with_reducible repeat (first | refine blk_drewN ?_ _ | refine blk_drew ?_ | refine blk_alloc ?_ _)); exact BK266.out) NB266_0.out (by simp)); have n2_ := Aside0.mk (Kd.R_mono (Kd.R_keep (IsS81.apart (show IsS81 w0 _ g s0_0 t278 from by repeat (first | (with_reducible first | exact HI0.out | apply IsS81.alloc | apply IsS81.drewN | apply IsS81.drew | apply IsS81.set_1 | refine IsS81.far ?_ NB0_246.out _ | refine IsS81.far ?_ NB0_266.out _) | exact HI0.out)) (by (with_reducible repeat (first | apply Kd.R_alloc | apply Kd.R_drewN | apply Kd.R_drew)); exact HO281.out) (by decide)) hk (fun _ h => h.2)) (fun _ h => h.1)); have n3_ := Aside0.mk (KeepBut.trans (by repeat (first | (with_reducible first | exact HK.out | apply KeepBut.set_ | apply keep_drewN | apply keep_drew | apply keep_alloc | refine keep_far ?_ GW246.out _ | refine keep_far ?_ GW266.out _) | exact HK.out)) hk (.inl rfl)); have n4_ := Aside0.mk (hb); have n5_ := Aside0.mk (hi); clear BK246; clear BK266; clear HO281; clear HK; clear HB; clear HI0; have BK246 := n0_; have BK266 := n1_; have HO281 := n2_; have HK := n3_; have HB := n4_; have HI0 := n5_; clear n0_ n1_ n2_ n3_ n4_ n5_; (try clear hb); (try clear hb2); (try clear hk); (try clear hi); obtain ⟨Ao76, co76, eo76⟩ := Kd.R_slice HO281.out; subst eo76; have p284 : 0 ≤ (t282 : Int) := of_decide_eq_true (by first | (with_reducible assumption) | assumption); have q284 : t282 < (y279.length : Int) := of_decide_eq_true (by first | (with_reducible assumption) | assumption); obtain ⟨ad284, e284, hx284_0⟩ := Kd.at_int (Kd.R_reads' HO281.out).2.2 t282 p284 q284; cases e284; replace p284 := eq_true p284; replace q284 := eq_true q284; have hnb77 := NB266_246.out; have hnc77 := NB246_266.out; have hnb78 := NB266_0.out; have hnc78 := NB0_266.out; have hcz79_0 : w75.cell? ⟨gb266, 0, none⟩ = some (.int .i64 x267000_42) := (blk_cell BK266.out 0).trans rfl; have hcz79_1 : w75.cell? ⟨gb266, 1, none⟩ = some (.int .i64 x267001_42) := (blk_cell BK266.out 1).trans rfl; have hcz79_2 : w75.cell? ⟨gb266, 2, none⟩ = some (.int .i64 x267002_42) := (blk_cell BK266.out 2).trans rfl; have hcz79_3 : w75.cell? ⟨gb266, 3, none⟩ = some (.int .i64 x267003_42) := (blk_cell BK266.out 3).trans rfl; have hcz79_4 : w75.cell? ⟨gb266, 4, none⟩ = some (.int .i64 x267004_42) := (blk_cell BK266.out 4).trans rfl; have hcz79_5 : w75.cell? ⟨gb266, 5, none⟩ = some (.int .i64 x267005_42) := (blk_cell BK266.out 5).trans rfl; have hcz79_6 : w75.cell? ⟨gb266, 6, none⟩ = some (.int .i64 x267006_42) := (blk_cell BK266.out 6).trans rfl; have hcz79_7 : w75.cell? ⟨gb266, 7, none⟩ = some (.int .i64 x267007_42) := (blk_cell BK266.out 7).trans rfl; have hcz79_8 : w75.cell? ⟨gb266, 8, none⟩ = some (.int .i64 x267008_42) := (blk_cell BK266.out 8).trans rfl; have hfz79_0 := blk_frozen BK266.out 0; have hfz79_1 := blk_frozen BK266.out 1; have hfz79_2 := blk_frozen BK266.out 2; have hfz79_3 := blk_frozen BK266.out 3; have hfz79_4 := blk_frozen BK266.out 4; have hfz79_5 := blk_frozen BK266.out 5; have hfz79_6 := blk_frozen BK266.out 6; have hfz79_7 := blk_frozen BK266.out 7; have hfz79_8 := blk_frozen BK266.out 8; have hnb80 := NB246_0.out; have hnc80 := NB0_246.out; have hcz81_0 : w75.cell? ⟨gb246, 0, none⟩ = some (.int .i64 0) := (blk_cell BK246.out 0).trans rfl; have hcz81_1 : w75.cell? ⟨gb246, 1, none⟩ = some (.int .i64 0) := (blk_cell BK246.out 1).trans rfl; have hcz81_2 : w75.cell? ⟨gb246, 2, none⟩ = some (.int .i64 0) := (blk_cell BK246.out 2).trans rfl; have hcz81_3 : w75.cell? ⟨gb246, 3, none⟩ = some (.int .i64 0) := (blk_cell BK246.out 3).trans rfl; have hcz81_4 : w75.cell? ⟨gb246, 4, none⟩ = some (.int .i64 0) := (blk_cell BK246.out 4).trans rfl; have hcz81_5 : w75.cell? ⟨gb246, 5, none⟩ = some (.int .i64 0) := (blk_cell BK246.out 5).trans rfl; have hcz81_6 : w75.cell? ⟨gb246, 6, none⟩ = some (.int .i64 0) := (blk_cell BK246.out 6).trans rfl; have hcz81_7 : w75.cell? ⟨gb246, 7, none⟩ = some (.int .i64 0) := (blk_cell BK246.out 7).trans rfl; have hcz81_8 : w75.cell? ⟨gb246, 8, none⟩ = some (.int .i64 0) := (blk_cell BK246.out 8).trans rfl; have hfz81_0 := blk_frozen BK246.out 0; have hfz81_1 := blk_frozen BK246.out 1; have hfz81_2 := blk_frozen BK246.out 2; have hfz81_3 := blk_frozen BK246.out 3; have hfz81_4 := blk_frozen BK246.out 4; have hfz81_5 := blk_frozen BK246.out 5; have hfz81_6 := blk_frozen BK246.out 6; have hfz81_7 := blk_frozen BK246.out 7; have hfz81_8 := blk_frozen BK246.out 8))
                      refine bodyPost_ret (results_cell_row rfl _ _ gb246 89 #[.int .i64 (rd y279 t282), .int .i64 x267001_42, .int .i64 x267002_42, .int .i64 x267003_42, .int .i64 x267004_42, .int .i64 x267005_42, .int .i64 x267006_42, .int .i64 x267007_42, .int .i64 x267008_42] (0, 0) _ rfl (by (with_reducible repeat (first | refine blk_drewN ?_ _ | refine blk_drew ?_ | refine blk_alloc ?_ _)); refine blk_put (cs := #[.int .i64 (rd y279 t282), .int .i64 x267001_42, .int .i64 x267002_42, .int .i64 x267003_42, .int .i64 x267004_42, .int .i64 x267005_42, .int .i64 x267006_42, .int .i64 x267007_42, .int .i64 0]) ?_ 8 _ rfl; (with_reducible repeat (first | refine blk_drewN ?_ _ | refine blk_drew ?_ | refine blk_alloc ?_ _)); refine blk_put (cs := #[.int .i64 (rd y279 t282), .int .i64 x267001_42, .int .i64 x267002_42, .int .i64 x267003_42, .int .i64 x267004_42, .int .i64 x267005_42, .int .i64 x267006_42, .int .i64 0, .int .i64 0]) ?_ 7 _ rfl; (with_reducible repeat (first | refine blk_drewN ?_ _ | refine blk_drew ?_ | refine blk_alloc ?_ _)); refine blk_put (cs := #[.int .i64 (rd y279 t282), .int .i64 x267001_42, .int .i64 x267002_42, .int .i64 x267003_42, .int .i64 x267004_42, .int .i64 x267005_42, .int .i64 0, .int .i64 0, .int .i64 0]) ?_ 6 _ rfl; (with_reducible repeat (first | refine blk_drewN ?_ _ | refine blk_drew ?_ | refine blk_alloc ?_ _)); refine blk_put (cs := #[.int .i64 (rd y279 t282), .int .i64 x267001_42, .int .i64 x267002_42, .int .i64 x267003_42, .int .i64 x267004_42, .int .i64 0, .int .i64 0, .int .i64 0, .int .i64 0]) ?_ 5 _ rfl; (with_reducible repeat (first | refine blk_drewN ?_ _ | refine blk_drew ?_ | refine blk_alloc ?_ _)); refine blk_put (cs := #[.int .i64 (rd y279 t282), .int .i64 x267001_42, .int .i64 x267002_42, .int .i64 x267003_42, .int .i64 0, .int .i64 0, .int .i64 0, .int .i64 0, .int .i64 0]) ?_ 4 _ rfl; (with_reducible repeat (first | refine blk_drewN ?_ _ | refine blk_drew ?_ | refine blk_alloc ?_ _)); refine blk_put (cs := #[.int .i64 (rd y279 t282), .int .i64 x267001_42, .int .i64 x267002_42, .int .i64 0, .int .i64 0, .int .i64 0, .int .i64 0, .int .i64 0, .int .i64 0]) ?_ 3 _ rfl; (with_reducible repeat (first | refine blk_drewN ?_ _ | refine blk_drew ?_ | refine blk_alloc ?_ _)); refine blk_put (cs := #[.int .i64 (rd y279 t282), .int .i64 x267001_42, .int .i64 0, .int .i64 0, .int .i64 0, .int .i64 0, .int .i64 0, .int .i64 0, .int .i64 0]) ?_ 2 _ rfl; (with_reducible repeat (first | refine blk_drewN ?_ _ | refine blk_drew ?_ | refine blk_alloc ?_ _)); refine blk_put (cs := #[.int .i64 (rd y279 t282), .int .i64 0, .int .i64 0, .int .i64 0, .int .i64 0, .int .i64 0, .int .i64 0, .int .i64 0, .int .i64 0]) ?_ 1 _ rfl; (with_reducible repeat (first | refine blk_drewN ?_ _ | refine blk_drew ?_ | refine blk_alloc ?_ _)); refine blk_put (cs := #[.int .i64 0, .int .i64 0, .int .i64 0, .int .i64 0, .int .i64 0, .int .i64 0, .int .i64 0, .int .i64 0, .int .i64 0]) ?_ 0 _ rfl; (with_reducible repeat (first | refine blk_drewN ?_ _ | refine blk_drew ?_ | refine blk_alloc ?_ _)); refine blk_far ?_ NB246_266.out _; (with_reducible repeat (first | refine blk_drewN ?_ _ | refine blk_drew ?_ | refine blk_alloc ?_ _)); exact BK246.out) Try.underlying89 rfl (by kernel_rfl)) rfl ?_
                      exact ⟨by first | rfl | (simp [errW_none, errW_some] <;> rfl) | (simp [*, errW_none, errW_some] <;> rfl), by repeat (first | (with_reducible first | exact HI0.out | apply IsS81.alloc | apply IsS81.drewN | apply IsS81.drew | apply IsS81.set_1 | refine IsS81.far ?_ NB0_246.out _ | refine IsS81.far ?_ NB0_266.out _) | exact HI0.out), by repeat (first | (with_reducible first | exact HB.out | apply below_alloc | apply pw_below_drewN | apply below_drew1 | refine below_set ?_ (IsS81.ge HI0.out) | refine below_set ?_ GE246.out | refine below_set ?_ GE266.out) | exact HB.out), by repeat (first | (with_reducible first | exact HK.out | apply KeepBut.set_ | apply keep_drewN | apply keep_drew | apply keep_alloc | refine keep_far ?_ GW246.out _ | refine keep_far ?_ GW266.out _) | exact HK.out)⟩
                    · rw [if_neg c70] at H
                      exact absurd H (by simp)
                  · rw [if_neg c69] at H
                    exact absurd H (by simp)
                · rw [if_neg c67] at H
                  have c67b0 : (t277 == 0) = false := beq_eq_false_iff_ne.mpr c67
                  have c67b1 : (t277 != 0) = true := bne_iff_ne.mpr c67
                  by_cases c82 : t277 = 1
                  · rw [if_pos c82] at H
                    have c82b0 : (t277 == 1) = true := beq_iff_eq.mpr c82
                    have c82b1 : (t277 != 1) = false := bne_eq_false_iff_eq.mpr c82
                    clear c82
                    replace H := Option.bind_eq_some_iff.mp H
                    obtain ⟨⟨t285, t286, t287⟩, A830, H⟩ := H
                    replace H : (some (x267000_42, t285, t286, x267003_42, x267004_42, x267005_42, x267006_42, x267007_42, x267008_42, t287)) = some (r1, r2, r3, r4, r5, r6, r7, r8, r9, r10) := H
                    have A83 := Aside0.mk A830
                    clear A830
                    simp only [Option.some.injEq, Prod.mk.injEq] at H
                    obtain ⟨rfl, rfl, rfl, rfl, rfl, rfl, rfl, rfl, rfl, rfl⟩ := H
                    go_wp2_with (first | ((with_reducible refine gate_callee (f := 53) rfl ?_); refine goesL_ (some 44) rfl rfl Try.func53 (by kernel_rfl) rfl #[.pointer (some ⟨g, 0, none⟩), .int .i64 a1] rfl (by (try simp only [List.map_toArray, List.map_cons, List.map_nil]); first | done | rfl | (simp only [List.length_drop, List.length_take]; rfl)) ?_; (with_reducible refine (spec_l20Rd_pick.calls kj42 g s0_0 x1001_42 a1 t275 t276 w0 _ ?side1 ?side2 A58.out).mono ?_); (case side1 => repeat (first | (with_reducible first | exact HI0.out | apply IsS81.alloc | apply IsS81.drewN | apply IsS81.drew | apply IsS81.set_1 | refine IsS81.far ?_ NB0_246.out _ | refine IsS81.far ?_ NB0_266.out _) | exact HI0.out)); (case side2 => repeat (first | (with_reducible first | exact HB.out | apply below_alloc | apply pw_below_drewN | apply below_drew1 | refine below_set ?_ (IsS81.ge HI0.out) | refine below_set ?_ GE246.out | refine below_set ?_ GE266.out) | exact HB.out)); rintro e w84 ⟨rfl, hi, hb, hk⟩; refine ⟨_, rfl, ?_⟩; have n0_ := Aside0.mk (KeepBut.blk hk (g' := gb246) (o := .cells #[.int .i64 0, .int .i64 0, .int .i64 0, .int .i64 0, .int .i64 0, .int .i64 0, .int .i64 0, .int .i64 0, .int .i64 0] 89 (0, 0)) (by (with_reducible repeat (first | refine blk_drewN ?_ _ | refine blk_drew ?_ | refine blk_alloc ?_ _)); exact BK246.out) NB246_0.out (by simp)); have n1_ := Aside0.mk (KeepBut.blk hk (g' := gb266) (o := .cells #[.int .i64 x267000_42, .int .i64 x267001_42, .int .i64 x267002_42, .int .i64 x267003_42, .int .i64 x267004_42, .int .i64 x267005_42, .int .i64 x267006_42, .int .i64 x267007_42, .int .i64 x267008_42] 89 (0, 0)) (by (with_reducible repeat (first | refine blk_drewN ?_ _ | refine blk_drew ?_ | refine blk_alloc ?_ _)); exact BK266.out) NB266_0.out (by simp)); have n2_ := Aside0.mk (KeepBut.trans (by repeat (first | (with_reducible first | exact HK.out | apply KeepBut.set_ | apply keep_drewN | apply keep_drew | apply keep_alloc | refine keep_far ?_ GW246.out _ | refine keep_far ?_ GW266.out _) | exact HK.out)) hk (.inl rfl)); have n3_ := Aside0.mk (hb); have n4_ := Aside0.mk (hi); clear BK246; clear BK266; clear HK; clear HB; clear HI0; have BK246 := n0_; have BK266 := n1_; have HK := n2_; have HB := n3_; have HI0 := n4_; clear n0_ n1_ n2_ n3_ n4_; (try clear hb); (try clear hb2); (try clear hk); (try clear hi)) | ((with_reducible refine gate_callee (f := 53) rfl ?_); refine goesL_ (some 48) rfl rfl Try.func53 (by kernel_rfl) rfl #[.pointer (some ⟨g, 0, none⟩), .int .i64 5] rfl (by (try simp only [List.map_toArray, List.map_cons, List.map_nil]); first | done | rfl | (simp only [List.length_drop, List.length_take]; rfl)) ?_; (with_reducible refine (spec_l20Rd_pick.calls kj42 g s0_0 t276 5 t277 t278 w0 _ ?side1 ?side2 A66.out).mono ?_); (case side1 => repeat (first | (with_reducible first | exact HI0.out | apply IsS81.alloc | apply IsS81.drewN | apply IsS81.drew | apply IsS81.set_1 | refine IsS81.far ?_ NB0_246.out _ | refine IsS81.far ?_ NB0_266.out _) | exact HI0.out)); (case side2 => repeat (first | (with_reducible first | exact HB.out | apply below_alloc | apply pw_below_drewN | apply below_drew1 | refine below_set ?_ (IsS81.ge HI0.out) | refine below_set ?_ GE246.out | refine below_set ?_ GE266.out) | exact HB.out)); rintro e w85 ⟨rfl, hi, hb, hk⟩; refine ⟨_, rfl, ?_⟩; have n0_ := Aside0.mk (KeepBut.blk hk (g' := gb246) (o := .cells #[.int .i64 0, .int .i64 0, .int .i64 0, .int .i64 0, .int .i64 0, .int .i64 0, .int .i64 0, .int .i64 0, .int .i64 0] 89 (0, 0)) (by (with_reducible repeat (first | refine blk_drewN ?_ _ | refine blk_drew ?_ | refine blk_alloc ?_ _)); exact BK246.out) NB246_0.out (by simp)); have n1_ := Aside0.mk (KeepBut.blk hk (g' := gb266) (o := .cells #[.int .i64 x267000_42, .int .i64 x267001_42, .int .i64 x267002_42, .int .i64 x267003_42, .int .i64 x267004_42, .int .i64 x267005_42, .int .i64 x267006_42, .int .i64 x267007_42, .int .i64 x267008_42] 89 (0, 0)) (by (with_reducible repeat (first | refine blk_drewN ?_ _ | refine blk_drew ?_ | refine blk_alloc ?_ _)); exact BK266.out) NB266_0.out (by simp)); have n2_ := Aside0.mk (KeepBut.trans (by repeat (first | (with_reducible first | exact HK.out | apply KeepBut.set_ | apply keep_drewN | apply keep_drew | apply keep_alloc | refine keep_far ?_ GW246.out _ | refine keep_far ?_ GW266.out _) | exact HK.out)) hk (.inl rfl)); have n3_ := Aside0.mk (hb); have n4_ := Aside0.mk (hi); clear BK246; clear BK266; clear HK; clear HB; clear HI0; have BK246 := n0_; have BK266 := n1_; have HK := n2_; have HB := n3_; have HI0 := n4_; clear n0_ n1_ n2_ n3_ n4_; (try clear hb); (try clear hb2); (try clear hk); (try clear hi)) | ((with_reducible refine gate_callee (f := 67) rfl ?_); refine goesL_ (some 63) rfl rfl Try.func67 (by kernel_rfl) rfl #[.pointer (some ⟨g, 0, none⟩), .int .i64 1] rfl (by (try simp only [List.map_toArray, List.map_cons, List.map_nil]); first | done | rfl | (simp only [List.length_drop, List.length_take]; rfl)) ?_; (with_reducible refine (spec_l20Win.calls kj42 g s0_0 t278 1 t285 t286 t287 w0 _ ?side1 ?side2 A83.out).mono ?_); (case side1 => repeat (first | (with_reducible first | exact HI0.out | apply IsS81.alloc | apply IsS81.drewN | apply IsS81.drew | apply IsS81.set_1 | refine IsS81.far ?_ NB0_246.out _ | refine IsS81.far ?_ NB0_266.out _) | exact HI0.out)); (case side2 => repeat (first | (with_reducible first | exact HB.out | apply below_alloc | apply pw_below_drewN | apply below_drew1 | refine below_set ?_ (IsS81.ge HI0.out) | refine below_set ?_ GE246.out | refine below_set ?_ GE266.out) | exact HB.out)); rintro e w86 ⟨rfl, hi, hb, hk⟩; refine ⟨_, rfl, ?_⟩; have n0_ := Aside0.mk (KeepBut.blk hk (g' := gb246) (o := .cells #[.int .i64 0, .int .i64 0, .int .i64 0, .int .i64 0, .int .i64 0, .int .i64 0, .int .i64 0, .int .i64 0, .int .i64 0] 89 (0, 0)) (by (with_reducible repeat (first | refine blk_drewN ?_ _ | refine blk_drew ?_ | refine blk_alloc ?_ _)); exact BK246.out) NB246_0.out (by simp)); have n1_ := Aside0.mk (KeepBut.blk hk (g' := gb266) (o := .cells #[.int .i64 x267000_42, .int .i64 x267001_42, .int .i64 x267002_42, .int .i64 x267003_42, .int .i64 x267004_42, .int .i64 x267005_42, .int .i64 x267006_42, .int .i64 x267007_42, .int .i64 x267008_42] 89 (0, 0)) (by (with_reducible repeat (first | refine blk_drewN ?_ _ | refine blk_drew ?_ | refine blk_alloc ?_ _)); exact BK266.out) NB266_0.out (by simp)); have n2_ := Aside0.mk (KeepBut.trans (by repeat (first | (with_reducible first | exact HK.out | apply KeepBut.set_ | apply keep_drewN | apply keep_drew | apply keep_alloc | refine keep_far ?_ GW246.out _ | refine keep_far ?_ GW266.out _) | exact HK.out)) hk (.inl rfl)); have n3_ := Aside0.mk (hb); have n4_ := Aside0.mk (hi); clear BK246; clear BK266; clear HK; clear HB; clear HI0; have BK246 := n0_; have BK266 := n1_; have HK := n2_; have HB := n3_; have HI0 := n4_; clear n0_ n1_ n2_ n3_ n4_; (try clear hb); (try clear hb2); (try clear hk); (try clear hi); have hnb87 := NB266_246.out; have hnc87 := NB246_266.out; have hnb88 := NB266_0.out; have hnc88 := NB0_266.out; have hcz89_0 : w86.cell? ⟨gb266, 0, none⟩ = some (.int .i64 x267000_42) := (blk_cell BK266.out 0).trans rfl; have hcz89_1 : w86.cell? ⟨gb266, 1, none⟩ = some (.int .i64 x267001_42) := (blk_cell BK266.out 1).trans rfl; have hcz89_2 : w86.cell? ⟨gb266, 2, none⟩ = some (.int .i64 x267002_42) := (blk_cell BK266.out 2).trans rfl; have hcz89_3 : w86.cell? ⟨gb266, 3, none⟩ = some (.int .i64 x267003_42) := (blk_cell BK266.out 3).trans rfl; have hcz89_4 : w86.cell? ⟨gb266, 4, none⟩ = some (.int .i64 x267004_42) := (blk_cell BK266.out 4).trans rfl; have hcz89_5 : w86.cell? ⟨gb266, 5, none⟩ = some (.int .i64 x267005_42) := (blk_cell BK266.out 5).trans rfl; have hcz89_6 : w86.cell? ⟨gb266, 6, none⟩ = some (.int .i64 x267006_42) := (blk_cell BK266.out 6).trans rfl; have hcz89_7 : w86.cell? ⟨gb266, 7, none⟩ = some (.int .i64 x267007_42) := (blk_cell BK266.out 7).trans rfl; have hcz89_8 : w86.cell? ⟨gb266, 8, none⟩ = some (.int .i64 x267008_42) := (blk_cell BK266.out 8).trans rfl; have hfz89_0 := blk_frozen BK266.out 0; have hfz89_1 := blk_frozen BK266.out 1; have hfz89_2 := blk_frozen BK266.out 2; have hfz89_3 := blk_frozen BK266.out 3; have hfz89_4 := blk_frozen BK266.out 4; have hfz89_5 := blk_frozen BK266.out 5; have hfz89_6 := blk_frozen BK266.out 6; have hfz89_7 := blk_frozen BK266.out 7; have hfz89_8 := blk_frozen BK266.out 8; have hnb90 := NB246_0.out; have hnc90 := NB0_246.out; have hcz91_0 : w86.cell? ⟨gb246, 0, none⟩ = some (.int .i64 0) := (blk_cell BK246.out 0).trans rfl; have hcz91_1 : w86.cell? ⟨gb246, 1, none⟩ = some (.int .i64 0) := (blk_cell BK246.out 1).trans rfl; have hcz91_2 : w86.cell? ⟨gb246, 2, none⟩ = some (.int .i64 0) := (blk_cell BK246.out 2).trans rfl; have hcz91_3 : w86.cell? ⟨gb246, 3, none⟩ = some (.int .i64 0) := (blk_cell BK246.out 3).trans rfl; have hcz91_4 : w86.cell? ⟨gb246, 4, none⟩ = some (.int .i64 0) := (blk_cell BK246.out 4).trans rfl; have hcz91_5 : w86.cell? ⟨gb246, 5, none⟩ = some (.int .i64 0) := (blk_cell BK246.out 5).trans rfl; have hcz91_6 : w86.cell? ⟨gb246, 6, none⟩ = some (.int .i64 0) := (blk_cell BK246.out 6).trans rfl; have hcz91_7 : w86.cell? ⟨gb246, 7, none⟩ = some (.int .i64 0) := (blk_cell BK246.out 7).trans rfl; have hcz91_8 : w86.cell? ⟨gb246, 8, none⟩ = some (.int .i64 0) := (blk_cell BK246.out 8).trans rfl; have hfz91_0 := blk_frozen BK246.out 0; have hfz91_1 := blk_frozen BK246.out 1; have hfz91_2 := blk_frozen BK246.out 2; have hfz91_3 := blk_frozen BK246.out 3; have hfz91_4 := blk_frozen BK246.out 4; have hfz91_5 := blk_frozen BK246.out 5; have hfz91_6 := blk_frozen BK246.out 6; have hfz91_7 := blk_frozen BK246.out 7; have hfz91_8 := blk_frozen BK246.out 8))
                    refine bodyPost_ret (results_cell_row rfl _ _ gb246 89 #[.int .i64 x267000_42, .int .i64 t285, .int .i64 t286, .int .i64 x267003_42, .int .i64 x267004_42, .int .i64 x267005_42, .int .i64 x267006_42, .int .i64 x267007_42, .int .i64 x267008_42] (0, 0) _ rfl (by (with_reducible repeat (first | refine blk_drewN ?_ _ | refine blk_drew ?_ | refine blk_alloc ?_ _)); refine blk_put (cs := #[.int .i64 x267000_42, .int .i64 t285, .int .i64 t286, .int .i64 x267003_42, .int .i64 x267004_42, .int .i64 x267005_42, .int .i64 x267006_42, .int .i64 x267007_42, .int .i64 0]) ?_ 8 _ rfl; (with_reducible repeat (first | refine blk_drewN ?_ _ | refine blk_drew ?_ | refine blk_alloc ?_ _)); refine blk_put (cs := #[.int .i64 x267000_42, .int .i64 t285, .int .i64 t286, .int .i64 x267003_42, .int .i64 x267004_42, .int .i64 x267005_42, .int .i64 x267006_42, .int .i64 0, .int .i64 0]) ?_ 7 _ rfl; (with_reducible repeat (first | refine blk_drewN ?_ _ | refine blk_drew ?_ | refine blk_alloc ?_ _)); refine blk_put (cs := #[.int .i64 x267000_42, .int .i64 t285, .int .i64 t286, .int .i64 x267003_42, .int .i64 x267004_42, .int .i64 x267005_42, .int .i64 0, .int .i64 0, .int .i64 0]) ?_ 6 _ rfl; (with_reducible repeat (first | refine blk_drewN ?_ _ | refine blk_drew ?_ | refine blk_alloc ?_ _)); refine blk_put (cs := #[.int .i64 x267000_42, .int .i64 t285, .int .i64 t286, .int .i64 x267003_42, .int .i64 x267004_42, .int .i64 0, .int .i64 0, .int .i64 0, .int .i64 0]) ?_ 5 _ rfl; (with_reducible repeat (first | refine blk_drewN ?_ _ | refine blk_drew ?_ | refine blk_alloc ?_ _)); refine blk_put (cs := #[.int .i64 x267000_42, .int .i64 t285, .int .i64 t286, .int .i64 x267003_42, .int .i64 0, .int .i64 0, .int .i64 0, .int .i64 0, .int .i64 0]) ?_ 4 _ rfl; (with_reducible repeat (first | refine blk_drewN ?_ _ | refine blk_drew ?_ | refine blk_alloc ?_ _)); refine blk_put (cs := #[.int .i64 x267000_42, .int .i64 t285, .int .i64 t286, .int .i64 0, .int .i64 0, .int .i64 0, .int .i64 0, .int .i64 0, .int .i64 0]) ?_ 3 _ rfl; (with_reducible repeat (first | refine blk_drewN ?_ _ | refine blk_drew ?_ | refine blk_alloc ?_ _)); refine blk_put (cs := #[.int .i64 x267000_42, .int .i64 t285, .int .i64 0, .int .i64 0, .int .i64 0, .int .i64 0, .int .i64 0, .int .i64 0, .int .i64 0]) ?_ 2 _ rfl; (with_reducible repeat (first | refine blk_drewN ?_ _ | refine blk_drew ?_ | refine blk_alloc ?_ _)); refine blk_put (cs := #[.int .i64 x267000_42, .int .i64 0, .int .i64 0, .int .i64 0, .int .i64 0, .int .i64 0, .int .i64 0, .int .i64 0, .int .i64 0]) ?_ 1 _ rfl; (with_reducible repeat (first | refine blk_drewN ?_ _ | refine blk_drew ?_ | refine blk_alloc ?_ _)); refine blk_put (cs := #[.int .i64 0, .int .i64 0, .int .i64 0, .int .i64 0, .int .i64 0, .int .i64 0, .int .i64 0, .int .i64 0, .int .i64 0]) ?_ 0 _ rfl; (with_reducible repeat (first | refine blk_drewN ?_ _ | refine blk_drew ?_ | refine blk_alloc ?_ _)); refine blk_far ?_ NB246_266.out _; (with_reducible repeat (first | refine blk_drewN ?_ _ | refine blk_drew ?_ | refine blk_alloc ?_ _)); refine blk_far ?_ NB246_266.out _; (with_reducible repeat (first | refine blk_drewN ?_ _ | refine blk_drew ?_ | refine blk_alloc ?_ _)); exact BK246.out) Try.underlying89 rfl (by kernel_rfl)) rfl ?_
                    exact ⟨by first | rfl | (simp [errW_none, errW_some] <;> rfl) | (simp [*, errW_none, errW_some] <;> rfl), by repeat (first | (with_reducible first | exact HI0.out | apply IsS81.alloc | apply IsS81.drewN | apply IsS81.drew | apply IsS81.set_1 | refine IsS81.far ?_ NB0_246.out _ | refine IsS81.far ?_ NB0_266.out _) | exact HI0.out), by repeat (first | (with_reducible first | exact HB.out | apply below_alloc | apply pw_below_drewN | apply below_drew1 | refine below_set ?_ (IsS81.ge HI0.out) | refine below_set ?_ GE246.out | refine below_set ?_ GE266.out) | exact HB.out), by repeat (first | (with_reducible first | exact HK.out | apply KeepBut.set_ | apply keep_drewN | apply keep_drew | apply keep_alloc | refine keep_far ?_ GW246.out _ | refine keep_far ?_ GW266.out _) | exact HK.out)⟩
                  · rw [if_neg c82] at H
                    have c82b0 : (t277 == 1) = false := beq_eq_false_iff_ne.mpr c82
                    have c82b1 : (t277 != 1) = true := bne_iff_ne.mpr c82
                    by_cases c92 : t277 = 2
                    · rw [if_pos c92] at H
                      have c92b0 : (t277 == 2) = true := beq_iff_eq.mpr c92
                      have c92b1 : (t277 != 2) = false := bne_eq_false_iff_eq.mpr c92
                      clear c92
                      obtain ⟨y288, hy288⟩ : ∃ y_ : List Int, y_ = (([(-1), 0, 1, 1500, 1501] : List Int)) := ⟨_, rfl⟩
                      replace H : ((spec_l20Rd_pick.f kj42 s0_0 t278 5).bind fun bt291 => (if 0 ≤ bt291.1 then (if bt291.1 < (y288.length : Int) then (some (x267000_42, x267001_42, x267002_42, rd y288 bt291.1, x267004_42, x267005_42, x267006_42, x267007_42, x267008_42, bt291.2)) else (none)) else (none))) = some (r1, r2, r3, r4, r5, r6, r7, r8, r9, r10) := by first | (rw [hy288]; with_reducible exact H) | (have H2_ := (Option.bind_some _ _).symm.trans H; rw [hy288]; with_reducible exact H2_) | (have H2_ := (Option.bind_some _ _).symm.trans H; with_reducible exact H2_) | with_reducible exact H | (rw [hy288]; exact H) | exact H
                      have Ny288 := Aside0.mk hy288
                      clear hy288
                      replace H := Option.bind_eq_some_iff.mp H
                      obtain ⟨⟨t291, t292⟩, A930, H⟩ := H
                      replace H : (if 0 ≤ t291 then (if t291 < (y288.length : Int) then (some (x267000_42, x267001_42, x267002_42, rd y288 t291, x267004_42, x267005_42, x267006_42, x267007_42, x267008_42, t292)) else (none)) else (none)) = some (r1, r2, r3, r4, r5, r6, r7, r8, r9, r10) := H
                      have A93 := Aside0.mk A930
                      clear A930
                      by_cases c94 : 0 ≤ t291
                      · rw [if_pos c94] at H
                        have c94b0 : decide (0 ≤ t291) = true := decide_eq_true c94
                        clear c94
                        by_cases c95 : t291 < (y288.length : Int)
                        · rw [if_pos c95] at H
                          have c95b0 : decide (t291 < (y288.length : Int)) = true := decide_eq_true c95
                          clear c95
                          simp only [Option.some.injEq, Prod.mk.injEq] at H
                          obtain ⟨rfl, rfl, rfl, rfl, rfl, rfl, rfl, rfl, rfl, rfl⟩ := H
                          go_wp2_with (first | ((with_reducible refine gate_callee (f := 53) rfl ?_); refine goesL_ (some 44) rfl rfl Try.func53 (by kernel_rfl) rfl #[.pointer (some ⟨g, 0, none⟩), .int .i64 a1] rfl (by (try simp only [List.map_toArray, List.map_cons, List.map_nil]); first | done | rfl | (simp only [List.length_drop, List.length_take]; rfl)) ?_; (with_reducible refine (spec_l20Rd_pick.calls kj42 g s0_0 x1001_42 a1 t275 t276 w0 _ ?side1 ?side2 A58.out).mono ?_); (case side1 => repeat (first | (with_reducible first | exact HI0.out | apply IsS81.alloc | apply IsS81.drewN | apply IsS81.drew | apply IsS81.set_1 | refine IsS81.far ?_ NB0_246.out _ | refine IsS81.far ?_ NB0_266.out _) | exact HI0.out)); (case side2 => repeat (first | (with_reducible first | exact HB.out | apply below_alloc | apply pw_below_drewN | apply below_drew1 | refine below_set ?_ (IsS81.ge HI0.out) | refine below_set ?_ GE246.out | refine below_set ?_ GE266.out) | exact HB.out)); rintro e w96 ⟨rfl, hi, hb, hk⟩; refine ⟨_, rfl, ?_⟩; have n0_ := Aside0.mk (KeepBut.blk hk (g' := gb246) (o := .cells #[.int .i64 0, .int .i64 0, .int .i64 0, .int .i64 0, .int .i64 0, .int .i64 0, .int .i64 0, .int .i64 0, .int .i64 0] 89 (0, 0)) (by (with_reducible repeat (first | refine blk_drewN ?_ _ | refine blk_drew ?_ | refine blk_alloc ?_ _)); exact BK246.out) NB246_0.out (by simp)); have n1_ := Aside0.mk (KeepBut.blk hk (g' := gb266) (o := .cells #[.int .i64 x267000_42, .int .i64 x267001_42, .int .i64 x267002_42, .int .i64 x267003_42, .int .i64 x267004_42, .int .i64 x267005_42, .int .i64 x267006_42, .int .i64 x267007_42, .int .i64 x267008_42] 89 (0, 0)) (by (with_reducible repeat (first | refine blk_drewN ?_ _ | refine blk_drew ?_ | refine blk_alloc ?_ _)); exact BK266.out) NB266_0.out (by simp)); have n2_ := Aside0.mk (KeepBut.trans (by repeat (first | (with_reducible first | exact HK.out | apply KeepBut.set_ | apply keep_drewN | apply keep_drew | apply keep_alloc | refine keep_far ?_ GW246.out _ | refine keep_far ?_ GW266.out _) | exact HK.out)) hk (.inl rfl)); have n3_ := Aside0.mk (hb); have n4_ := Aside0.mk (hi); clear BK246; clear BK266; clear HK; clear HB; clear HI0; have BK246 := n0_; have BK266 := n1_; have HK := n2_; have HB := n3_; have HI0 := n4_; clear n0_ n1_ n2_ n3_ n4_; (try clear hb); (try clear hb2); (try clear hk); (try clear hi)) | ((with_reducible refine gate_callee (f := 53) rfl ?_); refine goesL_ (some 48) rfl rfl Try.func53 (by kernel_rfl) rfl #[.pointer (some ⟨g, 0, none⟩), .int .i64 5] rfl (by (try simp only [List.map_toArray, List.map_cons, List.map_nil]); first | done | rfl | (simp only [List.length_drop, List.length_take]; rfl)) ?_; (with_reducible refine (spec_l20Rd_pick.calls kj42 g s0_0 t276 5 t277 t278 w0 _ ?side1 ?side2 A66.out).mono ?_); (case side1 => repeat (first | (with_reducible first | exact HI0.out | apply IsS81.alloc | apply IsS81.drewN | apply IsS81.drew | apply IsS81.set_1 | refine IsS81.far ?_ NB0_246.out _ | refine IsS81.far ?_ NB0_266.out _) | exact HI0.out)); (case side2 => repeat (first | (with_reducible first | exact HB.out | apply below_alloc | apply pw_below_drewN | apply below_drew1 | refine below_set ?_ (IsS81.ge HI0.out) | refine below_set ?_ GE246.out | refine below_set ?_ GE266.out) | exact HB.out)); rintro e w97 ⟨rfl, hi, hb, hk⟩; refine ⟨_, rfl, ?_⟩; have n0_ := Aside0.mk (KeepBut.blk hk (g' := gb246) (o := .cells #[.int .i64 0, .int .i64 0, .int .i64 0, .int .i64 0, .int .i64 0, .int .i64 0, .int .i64 0, .int .i64 0, .int .i64 0] 89 (0, 0)) (by (with_reducible repeat (first | refine blk_drewN ?_ _ | refine blk_drew ?_ | refine blk_alloc ?_ _)); exact BK246.out) NB246_0.out (by simp)); have n1_ := Aside0.mk (KeepBut.blk hk (g' := gb266) (o := .cells #[.int .i64 x267000_42, .int .i64 x267001_42, .int .i64 x267002_42, .int .i64 x267003_42, .int .i64 x267004_42, .int .i64 x267005_42, .int .i64 x267006_42, .int .i64 x267007_42, .int .i64 x267008_42] 89 (0, 0)) (by (with_reducible repeat (first | refine blk_drewN ?_ _ | refine blk_drew ?_ | refine blk_alloc ?_ _)); exact BK266.out) NB266_0.out (by simp)); have n2_ := Aside0.mk (KeepBut.trans (by repeat (first | (with_reducible first | exact HK.out | apply KeepBut.set_ | apply keep_drewN | apply keep_drew | apply keep_alloc | refine keep_far ?_ GW246.out _ | refine keep_far ?_ GW266.out _) | exact HK.out)) hk (.inl rfl)); have n3_ := Aside0.mk (hb); have n4_ := Aside0.mk (hi); clear BK246; clear BK266; clear HK; clear HB; clear HI0; have BK246 := n0_; have BK266 := n1_; have HK := n2_; have HB := n3_; have HI0 := n4_; clear n0_ n1_ n2_ n3_ n4_; (try clear hb); (try clear hb2); (try clear hk); (try clear hi)) | ((with_reducible refine gate_dst (N := 67) rfl ?_); refine Kd.R_lit (Kd.int .i64) _ 3 ?hg (N := 67) ?hd (xs := ([(-1), 0, 1, 1500, 1501] : List Int)) (inner := [.int .i64 (-1), .int .i64 0, .int .i64 1, .int .i64 1500, .int .i64 1501]) (ok := fun _ => True) (okp := fun _ => True) ?hr ?hp (fun _ hk => hk) trivial (Below.refl _ _) (Nat.le_refl _) (by simp) ?_; (case hd => rfl); (case hg => rfl); (case hr => first | (go_simp; done) | (go_simp; rfl)); (case hp => exact (Reps.one (show Kd.M (Kd.int .i64) _ _ _ (-1) [.int .i64 (-1)] from rfl) (Reps.one (show Kd.M (Kd.int .i64) _ _ _ 0 [.int .i64 0] from rfl) (Reps.one (show Kd.M (Kd.int .i64) _ _ _ 1 [.int .i64 1] from rfl) (Reps.one (show Kd.M (Kd.int .i64) _ _ _ 1500 [.int .i64 1500] from rfl) (Reps.one (show Kd.M (Kd.int .i64) _ _ _ 1501 [.int .i64 1501] from rfl) (Reps.none _ _))))))); intro v289 w98 ho99 hb hg_ hnew_; clear hg_ hnew_; (first | rw [← Ny288.out] at ho99 | (simp only [Int.reduceToNat] at ho99; rw [← Ny288.out] at ho99)); have n0_ := Aside0.mk (Kd.R_lower ho99 (keep_size (w := w) (g := g) (row := none) (by repeat (first | (with_reducible first | exact HK.out | apply KeepBut.set_ | apply keep_drewN | apply keep_drew | apply keep_alloc | refine keep_far ?_ GW246.out _ | refine keep_far ?_ GW266.out _) | exact HK.out)))); have n1_ := Aside0.mk (blk_below (g := gb246) (o := .cells #[.int .i64 0, .int .i64 0, .int .i64 0, .int .i64 0, .int .i64 0, .int .i64 0, .int .i64 0, .int .i64 0, .int .i64 0] 89 (0, 0)) (by (with_reducible repeat (first | refine blk_drewN ?_ _ | refine blk_drew ?_ | refine blk_alloc ?_ _)); exact BK246.out) hb); have n2_ := Aside0.mk (blk_below (g := gb266) (o := .cells #[.int .i64 x267000_42, .int .i64 x267001_42, .int .i64 x267002_42, .int .i64 x267003_42, .int .i64 x267004_42, .int .i64 x267005_42, .int .i64 x267006_42, .int .i64 x267007_42, .int .i64 x267008_42] 89 (0, 0)) (by (with_reducible repeat (first | refine blk_drewN ?_ _ | refine blk_drew ?_ | refine blk_alloc ?_ _)); exact BK266.out) hb); have n3_ := Aside0.mk (IsS81.below (by repeat (first | (with_reducible first | exact HI0.out | apply IsS81.alloc | apply IsS81.drewN | apply IsS81.drew | apply IsS81.set_1 | refine IsS81.far ?_ NB0_246.out _ | refine IsS81.far ?_ NB0_266.out _) | exact HI0.out)) hb); have n4_ := Aside0.mk (KeepBut.trans (by repeat (first | (with_reducible first | exact HK.out | apply KeepBut.set_ | apply keep_drewN | apply keep_drew | apply keep_alloc | refine keep_far ?_ GW246.out _ | refine keep_far ?_ GW266.out _) | exact HK.out)) (KeepBut.of_below hb g none) (.inl rfl)); have n5_ := Aside0.mk (below_step (by repeat (first | (with_reducible first | exact HB.out | apply below_alloc | apply pw_below_drewN | apply below_drew1 | refine below_set ?_ (IsS81.ge HI0.out) | refine below_set ?_ GE246.out | refine below_set ?_ GE266.out) | exact HB.out)) hb); clear BK246; clear BK266; clear HI0; clear HK; clear HB; have HO290 := n0_; have BK246 := n1_; have BK266 := n2_; have HI0 := n3_; have HK := n4_; have HB := n5_; clear n0_ n1_ n2_ n3_ n4_ n5_; clear hb ho99) | ((with_reducible refine gate_callee (f := 53) rfl ?_); refine goesL_ (some 69) rfl rfl Try.func53 (by kernel_rfl) rfl #[.pointer (some ⟨g, 0, none⟩), .int .i64 5] rfl (by (try simp only [List.map_toArray, List.map_cons, List.map_nil]); first | done | rfl | (simp only [List.length_drop, List.length_take]; rfl)) ?_; (with_reducible refine (spec_l20Rd_pick.calls kj42 g s0_0 t278 5 t291 t292 w0 _ ?side1 ?side2 A93.out).mono ?_); (case side1 => repeat (first | (with_reducible first | exact HI0.out | apply IsS81.alloc | apply IsS81.drewN | apply IsS81.drew | apply IsS81.set_1 | refine IsS81.far ?_ NB0_246.out _ | refine IsS81.far ?_ NB0_266.out _) | exact HI0.out)); (case side2 => repeat (first | (with_reducible first | exact HB.out | apply below_alloc | apply pw_below_drewN | apply below_drew1 | refine below_set ?_ (IsS81.ge HI0.out) | refine below_set ?_ GE246.out | refine below_set ?_ GE266.out) | exact HB.out)); rintro e w100 ⟨rfl, hi, hb, hk⟩; refine ⟨_, rfl, ?_⟩; have n0_ := Aside0.mk (KeepBut.blk hk (g' := gb246) (o := .cells #[.int .i64 0, .int .i64 0, .int .i64 0, .int .i64 0, .int .i64 0, .int .i64 0, .int .i64 0, .int .i64 0, .int .i64 0] 89 (0, 0)) (by (with_reducible repeat (first | refine blk_drewN ?_ _ | refine blk_drew ?_ | refine blk_alloc ?_ _)); exact BK246.out) NB246_0.out (by simp)); have n1_ := Aside0.mk (KeepBut.blk hk (g' := gb266) (o := .cells #[.int .i64 x267000_42, .int .i64 x267001_42, .int .i64 x267002_42, .int .i64 x267003_42, .int .i64 x267004_42, .int .i64 x267005_42, .int .i64 x267006_42, .int .i64 x267007_42, .int .i64 x267008_42] 89 (0, 0)) (by (with_reducible repeat (first | refine blk_drewN ?_ _ | refine blk_drew ?_ | refine blk_alloc ?_ _)); exact BK266.out) NB266_0.out (by simp)); have n2_ := Aside0.mk (Kd.R_mono (Kd.R_keep (IsS81.apart (show IsS81 w0 _ g s0_0 t278 from by repeat (first | (with_reducible first | exact HI0.out | apply IsS81.alloc | apply IsS81.drewN | apply IsS81.drew | apply IsS81.set_1 | refine IsS81.far ?_ NB0_246.out _ | refine IsS81.far ?_ NB0_266.out _) | exact HI0.out)) (by (with_reducible repeat (first | apply Kd.R_alloc | apply Kd.R_drewN | apply Kd.R_drew)); exact HO290.out) (by decide)) hk (fun _ h => h.2)) (fun _ h => h.1)); have n3_ := Aside0.mk (KeepBut.trans (by repeat (first | (with_reducible first | exact HK.out | apply KeepBut.set_ | apply keep_drewN | apply keep_drew | apply keep_alloc | refine keep_far ?_ GW246.out _ | refine keep_far ?_ GW266.out _) | exact HK.out)) hk (.inl rfl)); have n4_ := Aside0.mk (hb); have n5_ := Aside0.mk (hi); clear BK246; clear BK266; clear HO290; clear HK; clear HB; clear HI0; have BK246 := n0_; have BK266 := n1_; have HO290 := n2_; have HK := n3_; have HB := n4_; have HI0 := n5_; clear n0_ n1_ n2_ n3_ n4_ n5_; (try clear hb); (try clear hb2); (try clear hk); (try clear hi); obtain ⟨Ao101, co101, eo101⟩ := Kd.R_slice HO290.out; subst eo101; have p293 : 0 ≤ (t291 : Int) := of_decide_eq_true (by first | (with_reducible assumption) | assumption); have q293 : t291 < (y288.length : Int) := of_decide_eq_true (by first | (with_reducible assumption) | assumption); obtain ⟨ad293, e293, hx293_0⟩ := Kd.at_int (Kd.R_reads' HO290.out).2.2 t291 p293 q293; cases e293; replace p293 := eq_true p293; replace q293 := eq_true q293; have hnb102 := NB266_246.out; have hnc102 := NB246_266.out; have hnb103 := NB266_0.out; have hnc103 := NB0_266.out; have hcz104_0 : w100.cell? ⟨gb266, 0, none⟩ = some (.int .i64 x267000_42) := (blk_cell BK266.out 0).trans rfl; have hcz104_1 : w100.cell? ⟨gb266, 1, none⟩ = some (.int .i64 x267001_42) := (blk_cell BK266.out 1).trans rfl; have hcz104_2 : w100.cell? ⟨gb266, 2, none⟩ = some (.int .i64 x267002_42) := (blk_cell BK266.out 2).trans rfl; have hcz104_3 : w100.cell? ⟨gb266, 3, none⟩ = some (.int .i64 x267003_42) := (blk_cell BK266.out 3).trans rfl; have hcz104_4 : w100.cell? ⟨gb266, 4, none⟩ = some (.int .i64 x267004_42) := (blk_cell BK266.out 4).trans rfl; have hcz104_5 : w100.cell? ⟨gb266, 5, none⟩ = some (.int .i64 x267005_42) := (blk_cell BK266.out 5).trans rfl; have hcz104_6 : w100.cell? ⟨gb266, 6, none⟩ = some (.int .i64 x267006_42) := (blk_cell BK266.out 6).trans rfl; have hcz104_7 : w100.cell? ⟨gb266, 7, none⟩ = some (.int .i64 x267007_42) := (blk_cell BK266.out 7).trans rfl; have hcz104_8 : w100.cell? ⟨gb266, 8, none⟩ = some (.int .i64 x267008_42) := (blk_cell BK266.out 8).trans rfl; have hfz104_0 := blk_frozen BK266.out 0; have hfz104_1 := blk_frozen BK266.out 1; have hfz104_2 := blk_frozen BK266.out 2; have hfz104_3 := blk_frozen BK266.out 3; have hfz104_4 := blk_frozen BK266.out 4; have hfz104_5 := blk_frozen BK266.out 5; have hfz104_6 := blk_frozen BK266.out 6; have hfz104_7 := blk_frozen BK266.out 7; have hfz104_8 := blk_frozen BK266.out 8; have hnb105 := NB246_0.out; have hnc105 := NB0_246.out; have hcz106_0 : w100.cell? ⟨gb246, 0, none⟩ = some (.int .i64 0) := (blk_cell BK246.out 0).trans rfl; have hcz106_1 : w100.cell? ⟨gb246, 1, none⟩ = some (.int .i64 0) := (blk_cell BK246.out 1).trans rfl; have hcz106_2 : w100.cell? ⟨gb246, 2, none⟩ = some (.int .i64 0) := (blk_cell BK246.out 2).trans rfl; have hcz106_3 : w100.cell? ⟨gb246, 3, none⟩ = some (.int .i64 0) := (blk_cell BK246.out 3).trans rfl; have hcz106_4 : w100.cell? ⟨gb246, 4, none⟩ = some (.int .i64 0) := (blk_cell BK246.out 4).trans rfl; have hcz106_5 : w100.cell? ⟨gb246, 5, none⟩ = some (.int .i64 0) := (blk_cell BK246.out 5).trans rfl; have hcz106_6 : w100.cell? ⟨gb246, 6, none⟩ = some (.int .i64 0) := (blk_cell BK246.out 6).trans rfl; have hcz106_7 : w100.cell? ⟨gb246, 7, none⟩ = some (.int .i64 0) := (blk_cell BK246.out 7).trans rfl; have hcz106_8 : w100.cell? ⟨gb246, 8, none⟩ = some (.int .i64 0) := (blk_cell BK246.out 8).trans rfl; have hfz106_0 := blk_frozen BK246.out 0; have hfz106_1 := blk_frozen BK246.out 1; have hfz106_2 := blk_frozen BK246.out 2; have hfz106_3 := blk_frozen BK246.out 3; have hfz106_4 := blk_frozen BK246.out 4; have hfz106_5 := blk_frozen BK246.out 5; have hfz106_6 := blk_frozen BK246.out 6; have hfz106_7 := blk_frozen BK246.out 7; have hfz106_8 := blk_frozen BK246.out 8))
                          refine bodyPost_ret (results_cell_row rfl _ _ gb246 89 #[.int .i64 x267000_42, .int .i64 x267001_42, .int .i64 x267002_42, .int .i64 (rd y288 t291), .int .i64 x267004_42, .int .i64 x267005_42, .int .i64 x267006_42, .int .i64 x267007_42, .int .i64 x267008_42] (0, 0) _ rfl (by (with_reducible repeat (first | refine blk_drewN ?_ _ | refine blk_drew ?_ | refine blk_alloc ?_ _)); refine blk_put (cs := #[.int .i64 x267000_42, .int .i64 x267001_42, .int .i64 x267002_42, .int .i64 (rd y288 t291), .int .i64 x267004_42, .int .i64 x267005_42, .int .i64 x267006_42, .int .i64 x267007_42, .int .i64 0]) ?_ 8 _ rfl; (with_reducible repeat (first | refine blk_drewN ?_ _ | refine blk_drew ?_ | refine blk_alloc ?_ _)); refine blk_put (cs := #[.int .i64 x267000_42, .int .i64 x267001_42, .int .i64 x267002_42, .int .i64 (rd y288 t291), .int .i64 x267004_42, .int .i64 x267005_42, .int .i64 x267006_42, .int .i64 0, .int .i64 0]) ?_ 7 _ rfl; (with_reducible repeat (first | refine blk_drewN ?_ _ | refine blk_drew ?_ | refine blk_alloc ?_ _)); refine blk_put (cs := #[.int .i64 x267000_42, .int .i64 x267001_42, .int .i64 x267002_42, .int .i64 (rd y288 t291), .int .i64 x267004_42, .int .i64 x267005_42, .int .i64 0, .int .i64 0, .int .i64 0]) ?_ 6 _ rfl; (with_reducible repeat (first | refine blk_drewN ?_ _ | refine blk_drew ?_ | refine blk_alloc ?_ _)); refine blk_put (cs := #[.int .i64 x267000_42, .int .i64 x267001_42, .int .i64 x267002_42, .int .i64 (rd y288 t291), .int .i64 x267004_42, .int .i64 0, .int .i64 0, .int .i64 0, .int .i64 0]) ?_ 5 _ rfl; (with_reducible repeat (first | refine blk_drewN ?_ _ | refine blk_drew ?_ | refine blk_alloc ?_ _)); refine blk_put (cs := #[.int .i64 x267000_42, .int .i64 x267001_42, .int .i64 x267002_42, .int .i64 (rd y288 t291), .int .i64 0, .int .i64 0, .int .i64 0, .int .i64 0, .int .i64 0]) ?_ 4 _ rfl; (with_reducible repeat (first | refine blk_drewN ?_ _ | refine blk_drew ?_ | refine blk_alloc ?_ _)); refine blk_put (cs := #[.int .i64 x267000_42, .int .i64 x267001_42, .int .i64 x267002_42, .int .i64 0, .int .i64 0, .int .i64 0, .int .i64 0, .int .i64 0, .int .i64 0]) ?_ 3 _ rfl; (with_reducible repeat (first | refine blk_drewN ?_ _ | refine blk_drew ?_ | refine blk_alloc ?_ _)); refine blk_put (cs := #[.int .i64 x267000_42, .int .i64 x267001_42, .int .i64 0, .int .i64 0, .int .i64 0, .int .i64 0, .int .i64 0, .int .i64 0, .int .i64 0]) ?_ 2 _ rfl; (with_reducible repeat (first | refine blk_drewN ?_ _ | refine blk_drew ?_ | refine blk_alloc ?_ _)); refine blk_put (cs := #[.int .i64 x267000_42, .int .i64 0, .int .i64 0, .int .i64 0, .int .i64 0, .int .i64 0, .int .i64 0, .int .i64 0, .int .i64 0]) ?_ 1 _ rfl; (with_reducible repeat (first | refine blk_drewN ?_ _ | refine blk_drew ?_ | refine blk_alloc ?_ _)); refine blk_put (cs := #[.int .i64 0, .int .i64 0, .int .i64 0, .int .i64 0, .int .i64 0, .int .i64 0, .int .i64 0, .int .i64 0, .int .i64 0]) ?_ 0 _ rfl; (with_reducible repeat (first | refine blk_drewN ?_ _ | refine blk_drew ?_ | refine blk_alloc ?_ _)); refine blk_far ?_ NB246_266.out _; (with_reducible repeat (first | refine blk_drewN ?_ _ | refine blk_drew ?_ | refine blk_alloc ?_ _)); exact BK246.out) Try.underlying89 rfl (by kernel_rfl)) rfl ?_
                          exact ⟨by first | rfl | (simp [errW_none, errW_some] <;> rfl) | (simp [*, errW_none, errW_some] <;> rfl), by repeat (first | (with_reducible first | exact HI0.out | apply IsS81.alloc | apply IsS81.drewN | apply IsS81.drew | apply IsS81.set_1 | refine IsS81.far ?_ NB0_246.out _ | refine IsS81.far ?_ NB0_266.out _) | exact HI0.out), by repeat (first | (with_reducible first | exact HB.out | apply below_alloc | apply pw_below_drewN | apply below_drew1 | refine below_set ?_ (IsS81.ge HI0.out) | refine below_set ?_ GE246.out | refine below_set ?_ GE266.out) | exact HB.out), by repeat (first | (with_reducible first | exact HK.out | apply KeepBut.set_ | apply keep_drewN | apply keep_drew | apply keep_alloc | refine keep_far ?_ GW246.out _ | refine keep_far ?_ GW266.out _) | exact HK.out)⟩
                        · rw [if_neg c95] at H
                          exact absurd H (by simp)
                      · rw [if_neg c94] at H
                        exact absurd H (by simp)
                    · rw [if_neg c92] at H
                      have c92b0 : (t277 == 2) = false := beq_eq_false_iff_ne.mpr c92
                      have c92b1 : (t277 != 2) = true := bne_iff_ne.mpr c92
                      by_cases c107 : t277 = 3
                      · rw [if_pos c107] at H
                        have c107b0 : (t277 == 3) = true := beq_iff_eq.mpr c107
                        have c107b1 : (t277 != 3) = false := bne_eq_false_iff_eq.mpr c107
                        clear c107
                        replace H := Option.bind_eq_some_iff.mp H
                        obtain ⟨⟨t294, t295⟩, A1080, H⟩ := H
                        replace H : (some (x267000_42, x267001_42, x267002_42, x267003_42, t294, x267005_42, x267006_42, x267007_42, x267008_42, t295)) = some (r1, r2, r3, r4, r5, r6, r7, r8, r9, r10) := H
                        have A108 := Aside0.mk A1080
                        clear A1080
                        simp only [Option.some.injEq, Prod.mk.injEq] at H
                        obtain ⟨rfl, rfl, rfl, rfl, rfl, rfl, rfl, rfl, rfl, rfl⟩ := H
                        go_wp2_with (first | ((with_reducible refine gate_callee (f := 53) rfl ?_); refine goesL_ (some 44) rfl rfl Try.func53 (by kernel_rfl) rfl #[.pointer (some ⟨g, 0, none⟩), .int .i64 a1] rfl (by (try simp only [List.map_toArray, List.map_cons, List.map_nil]); first | done | rfl | (simp only [List.length_drop, List.length_take]; rfl)) ?_; (with_reducible refine (spec_l20Rd_pick.calls kj42 g s0_0 x1001_42 a1 t275 t276 w0 _ ?side1 ?side2 A58.out).mono ?_); (case side1 => repeat (first | (with_reducible first | exact HI0.out | apply IsS81.alloc | apply IsS81.drewN | apply IsS81.drew | apply IsS81.set_1 | refine IsS81.far ?_ NB0_246.out _ | refine IsS81.far ?_ NB0_266.out _) | exact HI0.out)); (case side2 => repeat (first | (with_reducible first | exact HB.out | apply below_alloc | apply pw_below_drewN | apply below_drew1 | refine below_set ?_ (IsS81.ge HI0.out) | refine below_set ?_ GE246.out | refine below_set ?_ GE266.out) | exact HB.out)); rintro e w109 ⟨rfl, hi, hb, hk⟩; refine ⟨_, rfl, ?_⟩; have n0_ := Aside0.mk (KeepBut.blk hk (g' := gb246) (o := .cells #[.int .i64 0, .int .i64 0, .int .i64 0, .int .i64 0, .int .i64 0, .int .i64 0, .int .i64 0, .int .i64 0, .int .i64 0] 89 (0, 0)) (by (with_reducible repeat (first | refine blk_drewN ?_ _ | refine blk_drew ?_ | refine blk_alloc ?_ _)); exact BK246.out) NB246_0.out (by simp)); have n1_ := Aside0.mk (KeepBut.blk hk (g' := gb266) (o := .cells #[.int .i64 x267000_42, .int .i64 x267001_42, .int .i64 x267002_42, .int .i64 x267003_42, .int .i64 x267004_42, .int .i64 x267005_42, .int .i64 x267006_42, .int .i64 x267007_42, .int .i64 x267008_42] 89 (0, 0)) (by (with_reducible repeat (first | refine blk_drewN ?_ _ | refine blk_drew ?_ | refine blk_alloc ?_ _)); exact BK266.out) NB266_0.out (by simp)); have n2_ := Aside0.mk (KeepBut.trans (by repeat (first | (with_reducible first | exact HK.out | apply KeepBut.set_ | apply keep_drewN | apply keep_drew | apply keep_alloc | refine keep_far ?_ GW246.out _ | refine keep_far ?_ GW266.out _) | exact HK.out)) hk (.inl rfl)); have n3_ := Aside0.mk (hb); have n4_ := Aside0.mk (hi); clear BK246; clear BK266; clear HK; clear HB; clear HI0; have BK246 := n0_; have BK266 := n1_; have HK := n2_; have HB := n3_; have HI0 := n4_; clear n0_ n1_ n2_ n3_ n4_; (try clear hb); (try clear hb2); (try clear hk); (try clear hi)) | ((with_reducible refine gate_callee (f := 53) rfl ?_); refine goesL_ (some 48) rfl rfl Try.func53 (by kernel_rfl) rfl #[.pointer (some ⟨g, 0, none⟩), .int .i64 5] rfl (by (try simp only [List.map_toArray, List.map_cons, List.map_nil]); first | done | rfl | (simp only [List.length_drop, List.length_take]; rfl)) ?_; (with_reducible refine (spec_l20Rd_pick.calls kj42 g s0_0 t276 5 t277 t278 w0 _ ?side1 ?side2 A66.out).mono ?_); (case side1 => repeat (first | (with_reducible first | exact HI0.out | apply IsS81.alloc | apply IsS81.drewN | apply IsS81.drew | apply IsS81.set_1 | refine IsS81.far ?_ NB0_246.out _ | refine IsS81.far ?_ NB0_266.out _) | exact HI0.out)); (case side2 => repeat (first | (with_reducible first | exact HB.out | apply below_alloc | apply pw_below_drewN | apply below_drew1 | refine below_set ?_ (IsS81.ge HI0.out) | refine below_set ?_ GE246.out | refine below_set ?_ GE266.out) | exact HB.out)); rintro e w110 ⟨rfl, hi, hb, hk⟩; refine ⟨_, rfl, ?_⟩; have n0_ := Aside0.mk (KeepBut.blk hk (g' := gb246) (o := .cells #[.int .i64 0, .int .i64 0, .int .i64 0, .int .i64 0, .int .i64 0, .int .i64 0, .int .i64 0, .int .i64 0, .int .i64 0] 89 (0, 0)) (by (with_reducible repeat (first | refine blk_drewN ?_ _ | refine blk_drew ?_ | refine blk_alloc ?_ _)); exact BK246.out) NB246_0.out (by simp)); have n1_ := Aside0.mk (KeepBut.blk hk (g' := gb266) (o := .cells #[.int .i64 x267000_42, .int .i64 x267001_42, .int .i64 x267002_42, .int .i64 x267003_42, .int .i64 x267004_42, .int .i64 x267005_42, .int .i64 x267006_42, .int .i64 x267007_42, .int .i64 x267008_42] 89 (0, 0)) (by (with_reducible repeat (first | refine blk_drewN ?_ _ | refine blk_drew ?_ | refine blk_alloc ?_ _)); exact BK266.out) NB266_0.out (by simp)); have n2_ := Aside0.mk (KeepBut.trans (by repeat (first | (with_reducible first | exact HK.out | apply KeepBut.set_ | apply keep_drewN | apply keep_drew | apply keep_alloc | refine keep_far ?_ GW246.out _ | refine keep_far ?_ GW266.out _) | exact HK.out)) hk (.inl rfl)); have n3_ := Aside0.mk (hb); have n4_ := Aside0.mk (hi); clear BK246; clear BK266; clear HK; clear HB; clear HI0; have BK246 := n0_; have BK266 := n1_; have HK := n2_; have HB := n3_; have HI0 := n4_; clear n0_ n1_ n2_ n3_ n4_; (try clear hb); (try clear hb2); (try clear hk); (try clear hi)) | ((with_reducible refine gate_callee (f := 53) rfl ?_); refine goesL_ (some 76) rfl rfl Try.func53 (by kernel_rfl) rfl #[.pointer (some ⟨g, 0, none⟩), .int .i64 5] rfl (by (try simp only [List.map_toArray, List.map_cons, List.map_nil]); first | done | rfl | (simp only [List.length_drop, List.length_take]; rfl)) ?_; (with_reducible refine (spec_l20Rd_pick.calls kj42 g s0_0 t278 5 t294 t295 w0 _ ?side1 ?side2 A108.out).mono ?_); (case side1 => repeat (first | (with_reducible first | exact HI0.out | apply IsS81.alloc | apply IsS81.drewN | apply IsS81.drew | apply IsS81.set_1 | refine IsS81.far ?_ NB0_246.out _ | refine IsS81.far ?_ NB0_266.out _) | exact HI0.out)); (case side2 => repeat (first | (with_reducible first | exact HB.out | apply below_alloc | apply pw_below_drewN | apply below_drew1 | refine below_set ?_ (IsS81.ge HI0.out) | refine below_set ?_ GE246.out | refine below_set ?_ GE266.out) | exact HB.out)); rintro e w111 ⟨rfl, hi, hb, hk⟩; refine ⟨_, rfl, ?_⟩; have n0_ := Aside0.mk (KeepBut.blk hk (g' := gb246) (o := .cells #[.int .i64 0, .int .i64 0, .int .i64 0, .int .i64 0, .int .i64 0, .int .i64 0, .int .i64 0, .int .i64 0, .int .i64 0] 89 (0, 0)) (by (with_reducible repeat (first | refine blk_drewN ?_ _ | refine blk_drew ?_ | refine blk_alloc ?_ _)); exact BK246.out) NB246_0.out (by simp)); have n1_ := Aside0.mk (KeepBut.blk hk (g' := gb266) (o := .cells #[.int .i64 x267000_42, .int .i64 x267001_42, .int .i64 x267002_42, .int .i64 x267003_42, .int .i64 x267004_42, .int .i64 x267005_42, .int .i64 x267006_42, .int .i64 x267007_42, .int .i64 x267008_42] 89 (0, 0)) (by (with_reducible repeat (first | refine blk_drewN ?_ _ | refine blk_drew ?_ | refine blk_alloc ?_ _)); exact BK266.out) NB266_0.out (by simp)); have n2_ := Aside0.mk (KeepBut.trans (by repeat (first | (with_reducible first | exact HK.out | apply KeepBut.set_ | apply keep_drewN | apply keep_drew | apply keep_alloc | refine keep_far ?_ GW246.out _ | refine keep_far ?_ GW266.out _) | exact HK.out)) hk (.inl rfl)); have n3_ := Aside0.mk (hb); have n4_ := Aside0.mk (hi); clear BK246; clear BK266; clear HK; clear HB; clear HI0; have BK246 := n0_; have BK266 := n1_; have HK := n2_; have HB := n3_; have HI0 := n4_; clear n0_ n1_ n2_ n3_ n4_; (try clear hb); (try clear hb2); (try clear hk); (try clear hi); have hnb112 := NB266_246.out; have hnc112 := NB246_266.out; have hnb113 := NB266_0.out; have hnc113 := NB0_266.out; have hcz114_0 : w111.cell? ⟨gb266, 0, none⟩ = some (.int .i64 x267000_42) := (blk_cell BK266.out 0).trans rfl; have hcz114_1 : w111.cell? ⟨gb266, 1, none⟩ = some (.int .i64 x267001_42) := (blk_cell BK266.out 1).trans rfl; have hcz114_2 : w111.cell? ⟨gb266, 2, none⟩ = some (.int .i64 x267002_42) := (blk_cell BK266.out 2).trans rfl; have hcz114_3 : w111.cell? ⟨gb266, 3, none⟩ = some (.int .i64 x267003_42) := (blk_cell BK266.out 3).trans rfl; have hcz114_4 : w111.cell? ⟨gb266, 4, none⟩ = some (.int .i64 x267004_42) := (blk_cell BK266.out 4).trans rfl; have hcz114_5 : w111.cell? ⟨gb266, 5, none⟩ = some (.int .i64 x267005_42) := (blk_cell BK266.out 5).trans rfl; have hcz114_6 : w111.cell? ⟨gb266, 6, none⟩ = some (.int .i64 x267006_42) := (blk_cell BK266.out 6).trans rfl; have hcz114_7 : w111.cell? ⟨gb266, 7, none⟩ = some (.int .i64 x267007_42) := (blk_cell BK266.out 7).trans rfl; have hcz114_8 : w111.cell? ⟨gb266, 8, none⟩ = some (.int .i64 x267008_42) := (blk_cell BK266.out 8).trans rfl; have hfz114_0 := blk_frozen BK266.out 0; have hfz114_1 := blk_frozen BK266.out 1; have hfz114_2 := blk_frozen BK266.out 2; have hfz114_3 := blk_frozen BK266.out 3; have hfz114_4 := blk_frozen BK266.out 4; have hfz114_5 := blk_frozen BK266.out 5; have hfz114_6 := blk_frozen BK266.out 6; have hfz114_7 := blk_frozen BK266.out 7; have hfz114_8 := blk_frozen BK266.out 8; have hnb115 := NB246_0.out; have hnc115 := NB0_246.out; have hcz116_0 : w111.cell? ⟨gb246, 0, none⟩ = some (.int .i64 0) := (blk_cell BK246.out 0).trans rfl; have hcz116_1 : w111.cell? ⟨gb246, 1, none⟩ = some (.int .i64 0) := (blk_cell BK246.out 1).trans rfl; have hcz116_2 : w111.cell? ⟨gb246, 2, none⟩ = some (.int .i64 0) := (blk_cell BK246.out 2).trans rfl; have hcz116_3 : w111.cell? ⟨gb246, 3, none⟩ = some (.int .i64 0) := (blk_cell BK246.out 3).trans rfl; have hcz116_4 : w111.cell? ⟨gb246, 4, none⟩ = some (.int .i64 0) := (blk_cell BK246.out 4).trans rfl; have hcz116_5 : w111.cell? ⟨gb246, 5, none⟩ = some (.int .i64 0) := (blk_cell BK246.out 5).trans rfl; have hcz116_6 : w111.cell? ⟨gb246, 6, none⟩ = some (.int .i64 0) := (blk_cell BK246.out 6).trans rfl; have hcz116_7 : w111.cell? ⟨gb246, 7, none⟩ = some (.int .i64 0) := (blk_cell BK246.out 7).trans rfl; have hcz116_8 : w111.cell? ⟨gb246, 8, none⟩ = some (.int .i64 0) := (blk_cell BK246.out 8).trans rfl; have hfz116_0 := blk_frozen BK246.out 0; have hfz116_1 := blk_frozen BK246.out 1; have hfz116_2 := blk_frozen BK246.out 2; have hfz116_3 := blk_frozen BK246.out 3; have hfz116_4 := blk_frozen BK246.out 4; have hfz116_5 := blk_frozen BK246.out 5; have hfz116_6 := blk_frozen BK246.out 6; have hfz116_7 := blk_frozen BK246.out 7; have hfz116_8 := blk_frozen BK246.out 8))
                        refine bodyPost_ret (results_cell_row rfl _ _ gb246 89 #[.int .i64 x267000_42, .int .i64 x267001_42, .int .i64 x267002_42, .int .i64 x267003_42, .int .i64 t294, .int .i64 x267005_42, .int .i64 x267006_42, .int .i64 x267007_42, .int .i64 x267008_42] (0, 0) _ rfl (by (with_reducible repeat (first | refine blk_drewN ?_ _ | refine blk_drew ?_ | refine blk_alloc ?_ _)); refine blk_put (cs := #[.int .i64 x267000_42, .int .i64 x267001_42, .int .i64 x267002_42, .int .i64 x267003_42, .int .i64 t294, .int .i64 x267005_42, .int .i64 x267006_42, .int .i64 x267007_42, .int .i64 0]) ?_ 8 _ rfl; (with_reducible repeat (first | refine blk_drewN ?_ _ | refine blk_drew ?_ | refine blk_alloc ?_ _)); refine blk_put (cs := #[.int .i64 x267000_42, .int .i64 x267001_42, .int .i64 x267002_42, .int .i64 x267003_42, .int .i64 t294, .int .i64 x267005_42, .int .i64 x267006_42, .int .i64 0, .int .i64 0]) ?_ 7 _ rfl; (with_reducible repeat (first | refine blk_drewN ?_ _ | refine blk_drew ?_ | refine blk_alloc ?_ _)); refine blk_put (cs := #[.int .i64 x267000_42, .int .i64 x267001_42, .int .i64 x267002_42, .int .i64 x267003_42, .int .i64 t294, .int .i64 x267005_42, .int .i64 0, .int .i64 0, .int .i64 0]) ?_ 6 _ rfl; (with_reducible repeat (first | refine blk_drewN ?_ _ | refine blk_drew ?_ | refine blk_alloc ?_ _)); refine blk_put (cs := #[.int .i64 x267000_42, .int .i64 x267001_42, .int .i64 x267002_42, .int .i64 x267003_42, .int .i64 t294, .int .i64 0, .int .i64 0, .int .i64 0, .int .i64 0]) ?_ 5 _ rfl; (with_reducible repeat (first | refine blk_drewN ?_ _ | refine blk_drew ?_ | refine blk_alloc ?_ _)); refine blk_put (cs := #[.int .i64 x267000_42, .int .i64 x267001_42, .int .i64 x267002_42, .int .i64 x267003_42, .int .i64 0, .int .i64 0, .int .i64 0, .int .i64 0, .int .i64 0]) ?_ 4 _ rfl; (with_reducible repeat (first | refine blk_drewN ?_ _ | refine blk_drew ?_ | refine blk_alloc ?_ _)); refine blk_put (cs := #[.int .i64 x267000_42, .int .i64 x267001_42, .int .i64 x267002_42, .int .i64 0, .int .i64 0, .int .i64 0, .int .i64 0, .int .i64 0, .int .i64 0]) ?_ 3 _ rfl; (with_reducible repeat (first | refine blk_drewN ?_ _ | refine blk_drew ?_ | refine blk_alloc ?_ _)); refine blk_put (cs := #[.int .i64 x267000_42, .int .i64 x267001_42, .int .i64 0, .int .i64 0, .int .i64 0, .int .i64 0, .int .i64 0, .int .i64 0, .int .i64 0]) ?_ 2 _ rfl; (with_reducible repeat (first | refine blk_drewN ?_ _ | refine blk_drew ?_ | refine blk_alloc ?_ _)); refine blk_put (cs := #[.int .i64 x267000_42, .int .i64 0, .int .i64 0, .int .i64 0, .int .i64 0, .int .i64 0, .int .i64 0, .int .i64 0, .int .i64 0]) ?_ 1 _ rfl; (with_reducible repeat (first | refine blk_drewN ?_ _ | refine blk_drew ?_ | refine blk_alloc ?_ _)); refine blk_put (cs := #[.int .i64 0, .int .i64 0, .int .i64 0, .int .i64 0, .int .i64 0, .int .i64 0, .int .i64 0, .int .i64 0, .int .i64 0]) ?_ 0 _ rfl; (with_reducible repeat (first | refine blk_drewN ?_ _ | refine blk_drew ?_ | refine blk_alloc ?_ _)); refine blk_far ?_ NB246_266.out _; (with_reducible repeat (first | refine blk_drewN ?_ _ | refine blk_drew ?_ | refine blk_alloc ?_ _)); exact BK246.out) Try.underlying89 rfl (by kernel_rfl)) rfl ?_
                        exact ⟨by first | rfl | (simp [errW_none, errW_some] <;> rfl) | (simp [*, errW_none, errW_some] <;> rfl), by repeat (first | (with_reducible first | exact HI0.out | apply IsS81.alloc | apply IsS81.drewN | apply IsS81.drew | apply IsS81.set_1 | refine IsS81.far ?_ NB0_246.out _ | refine IsS81.far ?_ NB0_266.out _) | exact HI0.out), by repeat (first | (with_reducible first | exact HB.out | apply below_alloc | apply pw_below_drewN | apply below_drew1 | refine below_set ?_ (IsS81.ge HI0.out) | refine below_set ?_ GE246.out | refine below_set ?_ GE266.out) | exact HB.out), by repeat (first | (with_reducible first | exact HK.out | apply KeepBut.set_ | apply keep_drewN | apply keep_drew | apply keep_alloc | refine keep_far ?_ GW246.out _ | refine keep_far ?_ GW266.out _) | exact HK.out)⟩
                      · rw [if_neg c107] at H
                        have c107b0 : (t277 == 3) = false := beq_eq_false_iff_ne.mpr c107
                        have c107b1 : (t277 != 3) = true := bne_iff_ne.mpr c107
                        replace H := Option.bind_eq_some_iff.mp H
                        obtain ⟨⟨t296, t297, t298, t299, t300⟩, A1170, H⟩ := H
                        replace H : (some (x267000_42, x267001_42, x267002_42, x267003_42, x267004_42, t296, t297, t298, t299, t300)) = some (r1, r2, r3, r4, r5, r6, r7, r8, r9, r10) := H
                        have A117 := Aside0.mk A1170
                        clear A1170
                        simp only [Option.some.injEq, Prod.mk.injEq] at H
                        obtain ⟨rfl, rfl, rfl, rfl, rfl, rfl, rfl, rfl, rfl, rfl⟩ := H
                        go_wp2_with (first | ((with_reducible refine gate_callee (f := 53) rfl ?_); refine goesL_ (some 44) rfl rfl Try.func53 (by kernel_rfl) rfl #[.pointer (some ⟨g, 0, none⟩), .int .i64 a1] rfl (by (try simp only [List.map_toArray, List.map_cons, List.map_nil]); first | done | rfl | (simp only [List.length_drop, List.length_take]; rfl)) ?_; (with_reducible refine (spec_l20Rd_pick.calls kj42 g s0_0 x1001_42 a1 t275 t276 w0 _ ?side1 ?side2 A58.out).mono ?_); (case side1 => repeat (first | (with_reducible first | exact HI0.out | apply IsS81.alloc | apply IsS81.drewN | apply IsS81.drew | apply IsS81.set_1 | refine IsS81.far ?_ NB0_246.out _ | refine IsS81.far ?_ NB0_266.out _) | exact HI0.out)); (case side2 => repeat (first | (with_reducible first | exact HB.out | apply below_alloc | apply pw_below_drewN | apply below_drew1 | refine below_set ?_ (IsS81.ge HI0.out) | refine below_set ?_ GE246.out | refine below_set ?_ GE266.out) | exact HB.out)); rintro e w118 ⟨rfl, hi, hb, hk⟩; refine ⟨_, rfl, ?_⟩; have n0_ := Aside0.mk (KeepBut.blk hk (g' := gb246) (o := .cells #[.int .i64 0, .int .i64 0, .int .i64 0, .int .i64 0, .int .i64 0, .int .i64 0, .int .i64 0, .int .i64 0, .int .i64 0] 89 (0, 0)) (by (with_reducible repeat (first | refine blk_drewN ?_ _ | refine blk_drew ?_ | refine blk_alloc ?_ _)); exact BK246.out) NB246_0.out (by simp)); have n1_ := Aside0.mk (KeepBut.blk hk (g' := gb266) (o := .cells #[.int .i64 x267000_42, .int .i64 x267001_42, .int .i64 x267002_42, .int .i64 x267003_42, .int .i64 x267004_42, .int .i64 x267005_42, .int .i64 x267006_42, .int .i64 x267007_42, .int .i64 x267008_42] 89 (0, 0)) (by (with_reducible repeat (first | refine blk_drewN ?_ _ | refine blk_drew ?_ | refine blk_alloc ?_ _)); exact BK266.out) NB266_0.out (by simp)); have n2_ := Aside0.mk (KeepBut.trans (by repeat (first | (with_reducible first | exact HK.out | apply KeepBut.set_ | apply keep_drewN | apply keep_drew | apply keep_alloc | refine keep_far ?_ GW246.out _ | refine keep_far ?_ GW266.out _) | exact HK.out)) hk (.inl rfl)); have n3_ := Aside0.mk (hb); have n4_ := Aside0.mk (hi); clear BK246; clear BK266; clear HK; clear HB; clear HI0; have BK246 := n0_; have BK266 := n1_; have HK := n2_; have HB := n3_; have HI0 := n4_; clear n0_ n1_ n2_ n3_ n4_; (try clear hb); (try clear hb2); (try clear hk); (try clear hi)) | ((with_reducible refine gate_callee (f := 53) rfl ?_); refine goesL_ (some 48) rfl rfl Try.func53 (by kernel_rfl) rfl #[.pointer (some ⟨g, 0, none⟩), .int .i64 5] rfl (by (try simp only [List.map_toArray, List.map_cons, List.map_nil]); first | done | rfl | (simp only [List.length_drop, List.length_take]; rfl)) ?_; (with_reducible refine (spec_l20Rd_pick.calls kj42 g s0_0 t276 5 t277 t278 w0 _ ?side1 ?side2 A66.out).mono ?_); (case side1 => repeat (first | (with_reducible first | exact HI0.out | apply IsS81.alloc | apply IsS81.drewN | apply IsS81.drew | apply IsS81.set_1 | refine IsS81.far ?_ NB0_246.out _ | refine IsS81.far ?_ NB0_266.out _) | exact HI0.out)); (case side2 => repeat (first | (with_reducible first | exact HB.out | apply below_alloc | apply pw_below_drewN | apply below_drew1 | refine below_set ?_ (IsS81.ge HI0.out) | refine below_set ?_ GE246.out | refine below_set ?_ GE266.out) | exact HB.out)); rintro e w119 ⟨rfl, hi, hb, hk⟩; refine ⟨_, rfl, ?_⟩; have n0_ := Aside0.mk (KeepBut.blk hk (g' := gb246) (o := .cells #[.int .i64 0, .int .i64 0, .int .i64 0, .int .i64 0, .int .i64 0, .int .i64 0, .int .i64 0, .int .i64 0, .int .i64 0] 89 (0, 0)) (by (with_reducible repeat (first | refine blk_drewN ?_ _ | refine blk_drew ?_ | refine blk_alloc ?_ _)); exact BK246.out) NB246_0.out (by simp)); have n1_ := Aside0.mk (KeepBut.blk hk (g' := gb266) (o := .cells #[.int .i64 x267000_42, .int .i64 x267001_42, .int .i64 x267002_42, .int .i64 x267003_42, .int .i64 x267004_42, .int .i64 x267005_42, .int .i64 x267006_42, .int .i64 x267007_42, .int .i64 x267008_42] 89 (0, 0)) (by (with_reducible repeat (first | refine blk_drewN ?_ _ | refine blk_drew ?_ | refine blk_alloc ?_ _)); exact BK266.out) NB266_0.out (by simp)); have n2_ := Aside0.mk (KeepBut.trans (by repeat (first | (with_reducible first | exact HK.out | apply KeepBut.set_ | apply keep_drewN | apply keep_drew | apply keep_alloc | refine keep_far ?_ GW246.out _ | refine keep_far ?_ GW266.out _) | exact HK.out)) hk (.inl rfl)); have n3_ := Aside0.mk (hb); have n4_ := Aside0.mk (hi); clear BK246; clear BK266; clear HK; clear HB; clear HI0; have BK246 := n0_; have BK266 := n1_; have HK := n2_; have HB := n3_; have HI0 := n4_; clear n0_ n1_ n2_ n3_ n4_; (try clear hb); (try clear hb2); (try clear hk); (try clear hi)) | ((with_reducible refine gate_callee (f := 54) rfl ?_); refine goesL_ (some 50) rfl rfl Try.func54 (by kernel_rfl) rfl #[.pointer (some ⟨g, 0, none⟩), .int .i64 1] rfl (by (try simp only [List.map_toArray, List.map_cons, List.map_nil]); first | done | rfl | (simp only [List.length_drop, List.length_take]; rfl)) ?_; (with_reducible refine (spec_l20Agg.calls kj42 g s0_0 t278 1 t296 t297 t298 t299 t300 w0 _ ?side1 ?side2 A117.out).mono ?_); (case side1 => repeat (first | (with_reducible first | exact HI0.out | apply IsS81.alloc | apply IsS81.drewN | apply IsS81.drew | apply IsS81.set_1 | refine IsS81.far ?_ NB0_246.out _ | refine IsS81.far ?_ NB0_266.out _) | exact HI0.out)); (case side2 => repeat (first | (with_reducible first | exact HB.out | apply below_alloc | apply pw_below_drewN | apply below_drew1 | refine below_set ?_ (IsS81.ge HI0.out) | refine below_set ?_ GE246.out | refine below_set ?_ GE266.out) | exact HB.out)); rintro e w120 ⟨rfl, hi, hb, hk⟩; refine ⟨_, rfl, ?_⟩; have n0_ := Aside0.mk (KeepBut.blk hk (g' := gb246) (o := .cells #[.int .i64 0, .int .i64 0, .int .i64 0, .int .i64 0, .int .i64 0, .int .i64 0, .int .i64 0, .int .i64 0, .int .i64 0] 89 (0, 0)) (by (with_reducible repeat (first | refine blk_drewN ?_ _ | refine blk_drew ?_ | refine blk_alloc ?_ _)); exact BK246.out) NB246_0.out (by simp)); have n1_ := Aside0.mk (KeepBut.blk hk (g' := gb266) (o := .cells #[.int .i64 x267000_42, .int .i64 x267001_42, .int .i64 x267002_42, .int .i64 x267003_42, .int .i64 x267004_42, .int .i64 x267005_42, .int .i64 x267006_42, .int .i64 x267007_42, .int .i64 x267008_42] 89 (0, 0)) (by (with_reducible repeat (first | refine blk_drewN ?_ _ | refine blk_drew ?_ | refine blk_alloc ?_ _)); exact BK266.out) NB266_0.out (by simp)); have n2_ := Aside0.mk (KeepBut.trans (by repeat (first | (with_reducible first | exact HK.out | apply KeepBut.set_ | apply keep_drewN | apply keep_drew | apply keep_alloc | refine keep_far ?_ GW246.out _ | refine keep_far ?_ GW266.out _) | exact HK.out)) hk (.inl rfl)); have n3_ := Aside0.mk (hb); have n4_ := Aside0.mk (hi); clear BK246; clear BK266; clear HK; clear HB; clear HI0; have BK246 := n0_; have BK266 := n1_; have HK := n2_; have HB := n3_; have HI0 := n4_; clear n0_ n1_ n2_ n3_ n4_; (try clear hb); (try clear hb2); (try clear hk); (try clear hi); have hnb121 := NB266_246.out; have hnc121 := NB246_266.out; have hnb122 := NB266_0.out; have hnc122 := NB0_266.out; have hcz123_0 : w120.cell? ⟨gb266, 0, none⟩ = some (.int .i64 x267000_42) := (blk_cell BK266.out 0).trans rfl; have hcz123_1 : w120.cell? ⟨gb266, 1, none⟩ = some (.int .i64 x267001_42) := (blk_cell BK266.out 1).trans rfl; have hcz123_2 : w120.cell? ⟨gb266, 2, none⟩ = some (.int .i64 x267002_42) := (blk_cell BK266.out 2).trans rfl; have hcz123_3 : w120.cell? ⟨gb266, 3, none⟩ = some (.int .i64 x267003_42) := (blk_cell BK266.out 3).trans rfl; have hcz123_4 : w120.cell? ⟨gb266, 4, none⟩ = some (.int .i64 x267004_42) := (blk_cell BK266.out 4).trans rfl; have hcz123_5 : w120.cell? ⟨gb266, 5, none⟩ = some (.int .i64 x267005_42) := (blk_cell BK266.out 5).trans rfl; have hcz123_6 : w120.cell? ⟨gb266, 6, none⟩ = some (.int .i64 x267006_42) := (blk_cell BK266.out 6).trans rfl; have hcz123_7 : w120.cell? ⟨gb266, 7, none⟩ = some (.int .i64 x267007_42) := (blk_cell BK266.out 7).trans rfl; have hcz123_8 : w120.cell? ⟨gb266, 8, none⟩ = some (.int .i64 x267008_42) := (blk_cell BK266.out 8).trans rfl; have hfz123_0 := blk_frozen BK266.out 0; have hfz123_1 := blk_frozen BK266.out 1; have hfz123_2 := blk_frozen BK266.out 2; have hfz123_3 := blk_frozen BK266.out 3; have hfz123_4 := blk_frozen BK266.out 4; have hfz123_5 := blk_frozen BK266.out 5; have hfz123_6 := blk_frozen BK266.out 6; have hfz123_7 := blk_frozen BK266.out 7; have hfz123_8 := blk_frozen BK266.out 8; have hnb124 := NB246_0.out; have hnc124 := NB0_246.out; have hcz125_0 : w120.cell? ⟨gb246, 0, none⟩ = some (.int .i64 0) := (blk_cell BK246.out 0).trans rfl; have hcz125_1 : w120.cell? ⟨gb246, 1, none⟩ = some (.int .i64 0) := (blk_cell BK246.out 1).trans rfl; have hcz125_2 : w120.cell? ⟨gb246, 2, none⟩ = some (.int .i64 0) := (blk_cell BK246.out 2).trans rfl; have hcz125_3 : w120.cell? ⟨gb246, 3, none⟩ = some (.int .i64 0) := (blk_cell BK246.out 3).trans rfl; have hcz125_4 : w120.cell? ⟨gb246, 4, none⟩ = some (.int .i64 0) := (blk_cell BK246.out 4).trans rfl; have hcz125_5 : w120.cell? ⟨gb246, 5, none⟩ = some (.int .i64 0) := (blk_cell BK246.out 5).trans rfl; have hcz125_6 : w120.cell? ⟨gb246, 6, none⟩ = some (.int .i64 0) := (blk_cell BK246.out 6).trans rfl; have hcz125_7 : w120.cell? ⟨gb246, 7, none⟩ = some (.int .i64 0) := (blk_cell BK246.out 7).trans rfl; have hcz125_8 : w120.cell? ⟨gb246, 8, none⟩ = some (.int .i64 0) := (blk_cell BK246.out 8).trans rfl; have hfz125_0 := blk_frozen BK246.out 0; have hfz125_1 := blk_frozen BK246.out 1; have hfz125_2 := blk_frozen BK246.out 2; have hfz125_3 := blk_frozen BK246.out 3; have hfz125_4 := blk_frozen BK246.out 4; have hfz125_5 := blk_frozen BK246.out 5; have hfz125_6 := blk_frozen BK246.out 6; have hfz125_7 := blk_frozen BK246.out 7; have hfz125_8 := blk_frozen BK246.out 8))
                        refine bodyPost_ret (results_cell_row rfl _ _ gb246 89 #[.int .i64 x267000_42, .int .i64 x267001_42, .int .i64 x267002_42, .int .i64 x267003_42, .int .i64 x267004_42, .int .i64 t296, .int .i64 t297, .int .i64 t298, .int .i64 t299] (0, 0) _ rfl (by (with_reducible repeat (first | refine blk_drewN ?_ _ | refine blk_drew ?_ | refine blk_alloc ?_ _)); refine blk_put (cs := #[.int .i64 x267000_42, .int .i64 x267001_42, .int .i64 x267002_42, .int .i64 x267003_42, .int .i64 x267004_42, .int .i64 t296, .int .i64 t297, .int .i64 t298, .int .i64 0]) ?_ 8 _ rfl; (with_reducible repeat (first | refine blk_drewN ?_ _ | refine blk_drew ?_ | refine blk_alloc ?_ _)); refine blk_put (cs := #[.int .i64 x267000_42, .int .i64 x267001_42, .int .i64 x267002_42, .int .i64 x267003_42, .int .i64 x267004_42, .int .i64 t296, .int .i64 t297, .int .i64 0, .int .i64 0]) ?_ 7 _ rfl; (with_reducible repeat (first | refine blk_drewN ?_ _ | refine blk_drew ?_ | refine blk_alloc ?_ _)); refine blk_put (cs := #[.int .i64 x267000_42, .int .i64 x267001_42, .int .i64 x267002_42, .int .i64 x267003_42, .int .i64 x267004_42, .int .i64 t296, .int .i64 0, .int .i64 0, .int .i64 0]) ?_ 6 _ rfl; (with_reducible repeat (first | refine blk_drewN ?_ _ | refine blk_drew ?_ | refine blk_alloc ?_ _)); refine blk_put (cs := #[.int .i64 x267000_42, .int .i64 x267001_42, .int .i64 x267002_42, .int .i64 x267003_42, .int .i64 x267004_42, .int .i64 0, .int .i64 0, .int .i64 0, .int .i64 0]) ?_ 5 _ rfl; (with_reducible repeat (first | refine blk_drewN ?_ _ | refine blk_drew ?_ | refine blk_alloc ?_ _)); refine blk_put (cs := #[.int .i64 x267000_42, .int .i64 x267001_42, .int .i64 x267002_42, .int .i64 x267003_42, .int .i64 0, .int .i64 0, .int .i64 0, .int .i64 0, .int .i64 0]) ?_ 4 _ rfl; (with_reducible repeat (first | refine blk_drewN ?_ _ | refine blk_drew ?_ | refine blk_alloc ?_ _)); refine blk_put (cs := #[.int .i64 x267000_42, .int .i64 x267001_42, .int .i64 x267002_42, .int .i64 0, .int .i64 0, .int .i64 0, .int .i64 0, .int .i64 0, .int .i64 0]) ?_ 3 _ rfl; (with_reducible repeat (first | refine blk_drewN ?_ _ | refine blk_drew ?_ | refine blk_alloc ?_ _)); refine blk_put (cs := #[.int .i64 x267000_42, .int .i64 x267001_42, .int .i64 0, .int .i64 0, .int .i64 0, .int .i64 0, .int .i64 0, .int .i64 0, .int .i64 0]) ?_ 2 _ rfl; (with_reducible repeat (first | refine blk_drewN ?_ _ | refine blk_drew ?_ | refine blk_alloc ?_ _)); refine blk_put (cs := #[.int .i64 x267000_42, .int .i64 0, .int .i64 0, .int .i64 0, .int .i64 0, .int .i64 0, .int .i64 0, .int .i64 0, .int .i64 0]) ?_ 1 _ rfl; (with_reducible repeat (first | refine blk_drewN ?_ _ | refine blk_drew ?_ | refine blk_alloc ?_ _)); refine blk_put (cs := #[.int .i64 0, .int .i64 0, .int .i64 0, .int .i64 0, .int .i64 0, .int .i64 0, .int .i64 0, .int .i64 0, .int .i64 0]) ?_ 0 _ rfl; (with_reducible repeat (first | refine blk_drewN ?_ _ | refine blk_drew ?_ | refine blk_alloc ?_ _)); refine blk_far ?_ NB246_266.out _; (with_reducible repeat (first | refine blk_drewN ?_ _ | refine blk_drew ?_ | refine blk_alloc ?_ _)); refine blk_far ?_ NB246_266.out _; (with_reducible repeat (first | refine blk_drewN ?_ _ | refine blk_drew ?_ | refine blk_alloc ?_ _)); refine blk_far ?_ NB246_266.out _; (with_reducible repeat (first | refine blk_drewN ?_ _ | refine blk_drew ?_ | refine blk_alloc ?_ _)); refine blk_far ?_ NB246_266.out _; (with_reducible repeat (first | refine blk_drewN ?_ _ | refine blk_drew ?_ | refine blk_alloc ?_ _)); exact BK246.out) Try.underlying89 rfl (by kernel_rfl)) rfl ?_
                        exact ⟨by first | rfl | (simp [errW_none, errW_some] <;> rfl) | (simp [*, errW_none, errW_some] <;> rfl), by repeat (first | (with_reducible first | exact HI0.out | apply IsS81.alloc | apply IsS81.drewN | apply IsS81.drew | apply IsS81.set_1 | refine IsS81.far ?_ NB0_246.out _ | refine IsS81.far ?_ NB0_266.out _) | exact HI0.out), by repeat (first | (with_reducible first | exact HB.out | apply below_alloc | apply pw_below_drewN | apply below_drew1 | refine below_set ?_ (IsS81.ge HI0.out) | refine below_set ?_ GE246.out | refine below_set ?_ GE266.out) | exact HB.out), by repeat (first | (with_reducible first | exact HK.out | apply KeepBut.set_ | apply keep_drewN | apply keep_drew | apply keep_alloc | refine keep_far ?_ GW246.out _ | refine keep_far ?_ GW266.out _) | exact HK.out)⟩
    · rw [if_neg c6] at H
      exact absurd H (by simp)
  · rw [if_neg c5] at H
    exact absurd H (by simp)

end Go.Proofs.Ytjclmjmbhhlbcaa.PFnTabSame
