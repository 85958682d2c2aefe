/- Functions of the program as Lean functions, with their contracts, written by a program of mine over the kit's printer and in part by hand. No condition of its own. -/
import Derived.Test.YtkmckalckafloaaQFnPanOfx0
import Derived.Test.YtkmckalckafloaaQFnPanOfx3
import Derived.Test.YtkmckalckafloaaQFnPanOfx4
import Derived.Test.YtkmckalckafloaaQFnPanOfx5
namespace Go.Proofs.Ytkmckalckafloaa.PFnPanOf
open Go.RowKit Go.Proofs.YtkmckalckafloaaW.PrintWords Go.Proofs.YtkmckalckafloaaW.PrintLast Go.Proofs.YtkmckalckafloaaW.PrintMore
attribute [local go_sem] max2_int min2_int max_two min_two max_three min_three max_four min_four   -- for this text's walks alone
set_option linter.unusedVariables false
set_option linter.unusedSimpArgs false

/-! ### spec_l20Pane: function 93 -/
mutual
def spec_l20Pane.j0 : Nat → Int → List Int → Int → Int → Int → Int → Int → Int → Int → Int → Int → Int → Option (Int × Int × Int × Int × Int × Int × Int × Int × Int × Int)
  | 0, _, _, _, _, _, _, _, _, _, _, _, _ => none
  | k + 1, x1, x1000, x1001, x194000, x194001, x194002, x194003, x194004, x194005, x194006, x194007, x194008 => (spec_l20Rd_pick.f k x1000 x1001 5).bind fun bt198 => (if bt198.1 = 0 then ((spec_l20Rd_pick.f k x1000 bt198.2 3).bind fun bt200 => (spec_l20Pane.j1 k x1 x1000 bt200.2 x194000 x194001 x194002 (wrap64 (1 + bt200.1)) 3 0 0 0 0)) else (spec_l20Pane.j1 k x1 x1000 bt198.2 x194000 x194001 x194002 x194003 x194004 x194005 x194006 x194007 x194008))
def spec_l20Pane.j1 : Nat → Int → List Int → Int → Int → Int → Int → Int → Int → Int → Int → Int → Int → Option (Int × Int × Int × Int × Int × Int × Int × Int × Int × Int)
  | 0, _, _, _, _, _, _, _, _, _, _, _, _ => none
  | k + 1, x1, x1000, x1001, x194000, x194001, x194002, x194003, x194004, x194005, x194006, x194007, x194008 => (spec_l20Rd_pick.f k x1000 x1001 x1).bind fun bt202 => (if bt202.1 > 0 then (some (x194000, x194001, x194002, x194003, x194004, x194005, x194006, x194007, x194008, bt202.2)) else ((spec_l20Rd_pick.f k x1000 bt202.2 5).bind fun bt204 => (if bt204.1 = 0 then ((some (([(-1), 4] : List Int) : List Int)).bind fun y206 => ((spec_l20Rd_pick.f k x1000 bt204.2 2).bind fun bt209 => (if 0 ≤ bt209.1 then (if bt209.1 < (y206.length : Int) then (some (rd y206 bt209.1, x194001, x194002, x194003, x194004, x194005, x194006, x194007, x194008, bt209.2)) else (none)) else (none)))) else (if bt204.1 = 1 then ((spec_l20Win.f k x1000 bt204.2 1).bind fun bt212 => (some (x194000, bt212.1, bt212.2.1, x194003, x194004, x194005, x194006, x194007, x194008, bt212.2.2))) else (if bt204.1 = 2 then ((some (([(-1), 0, 1, 1500, 1501] : List Int) : List Int)).bind fun y215 => ((spec_l20Rd_pick.f k x1000 bt204.2 5).bind fun bt218 => (if 0 ≤ bt218.1 then (if bt218.1 < (y215.length : Int) then (some (x194000, x194001, x194002, rd y215 bt218.1, x194004, x194005, x194006, x194007, x194008, bt218.2)) else (none)) else (none)))) else (if bt204.1 = 3 then ((spec_l20Rd_pick.f k x1000 bt204.2 5).bind fun bt221 => (some (x194000, x194001, x194002, x194003, bt221.1, x194005, x194006, x194007, x194008, bt221.2))) else ((spec_l20Agg.f k x1000 bt204.2 1).bind fun bt223 => (some (x194000, x194001, x194002, x194003, x194004, bt223.1, bt223.2.1, bt223.2.2.1, bt223.2.2.2.1, bt223.2.2.2.2)))))))))
end
def spec_l20Pane.f (k : Nat) (s0_0 : List Int) (s0_1 : Int) (a1 : Int) : Option (Int × Int × Int × Int × Int × Int × Int × Int × Int × Int) := (spec_l20Rd_pick.f k s0_0 s0_1 3).bind fun bt174 => ((some (([(⟨0, 5⟩ : S34), (⟨5, 10⟩ : S34), (⟨3, 12⟩ : S34)] : List (S34)) : List (S34))).bind fun y176 => ((spec_l20Rd_pick.f k s0_0 bt174.2 3).bind fun bt179 => (if 0 ≤ bt179.1 then (if bt179.1 < (y176.length : Int) then ((spec_l20Agg.f k s0_0 bt179.2 99).bind fun bt182 => ((spec_l20Rd_pick.f k s0_0 bt182.2.2.2.2 19).bind fun bt187 => ((spec_AggAdd.f bt182.1 bt182.2.1 bt182.2.2.1 bt182.2.2.2.1 (wrap64 (bt187.1 - 9))).bind fun bt189 => ((spec_l20Rd_pick.f k s0_0 bt187.2 2).bind fun bt194 => (if bt194.1 = 0 then ((spec_l20Rd_pick.f k s0_0 bt194.2 3).bind fun bt196 => (spec_l20Pane.j0 k a1 s0_0 bt196.2 bt174.1 ((rd_T34 y176 bt179.1).f0) ((rd_T34 y176 bt179.1).f1) (wrap64 (1 + bt196.1)) 2 bt189.1 bt189.2.1 bt189.2.2.1 bt189.2.2.2)) else (spec_l20Pane.j0 k a1 s0_0 bt194.2 bt174.1 ((rd_T34 y176 bt179.1).f0) ((rd_T34 y176 bt179.1).f1) 0 1 bt189.1 bt189.2.1 bt189.2.2.1 bt189.2.2.2)))))) else (none)) else (none))))
theorem spec_l20Pane.mono_l : ∀ k, (∀ y0 y1 y2 y3 y4 y5 y6 y7 y8 y9 y10 y11, LeO (spec_l20Pane.j0 k y0 y1 y2 y3 y4 y5 y6 y7 y8 y9 y10 y11) (spec_l20Pane.j0 (k + 1) y0 y1 y2 y3 y4 y5 y6 y7 y8 y9 y10 y11)) ∧ (∀ y0 y1 y2 y3 y4 y5 y6 y7 y8 y9 y10 y11, LeO (spec_l20Pane.j1 k y0 y1 y2 y3 y4 y5 y6 y7 y8 y9 y10 y11) (spec_l20Pane.j1 (k + 1) y0 y1 y2 y3 y4 y5 y6 y7 y8 y9 y10 y11))
  | 0 => ⟨fun _ _ _ _ _ _ _ _ _ _ _ _ r h => by simp [spec_l20Pane.j0] at h, fun _ _ _ _ _ _ _ _ _ _ _ _ r h => by simp [spec_l20Pane.j1] at h⟩
  | k + 1 => by
    obtain ⟨ih0, ih1⟩ := spec_l20Pane.mono_l k
    refine ⟨?_, ?_⟩
    · intro y0 y1 y2 y3 y4 y5 y6 y7 y8 y9 y10 y11
      unfold spec_l20Pane.j0
      repeat' first
      | (with_reducible exact ih0 _ _ _ _ _ _ _ _ _ _ _ _)
      | (with_reducible exact ih1 _ _ _ _ _ _ _ _ _ _ _ _)
      | (with_reducible exact spec_l20Agg.mono _ _ _ _)
      | (with_reducible exact spec_l20Rd_pick.mono _ _ _ _)
      | (with_reducible exact spec_l20Win.mono _ _ _ _)
      | (with_reducible exact LeO.refl _)
      | (with_reducible exact LeO.none _)
      | (with_reducible refine LeO.ite ?_ ?_)
      | (with_reducible refine LeO.bind ?_ (fun _ => ?_))
      | exact ih0 _ _ _ _ _ _ _ _ _ _ _ _
      | exact ih1 _ _ _ _ _ _ _ _ _ _ _ _
      | exact spec_l20Agg.mono _ _ _ _
      | exact spec_l20Rd_pick.mono _ _ _ _
      | exact spec_l20Win.mono _ _ _ _
      | exact LeO.none _
      | refine LeO.ite ?_ ?_
      | refine LeO.bind ?_ (fun _ => ?_)
    · intro y0 y1 y2 y3 y4 y5 y6 y7 y8 y9 y10 y11
      unfold spec_l20Pane.j1
      repeat' first
      | (with_reducible exact ih0 _ _ _ _ _ _ _ _ _ _ _ _)
      | (with_reducible exact ih1 _ _ _ _ _ _ _ _ _ _ _ _)
      | (with_reducible exact spec_l20Agg.mono _ _ _ _)
      | (with_reducible exact spec_l20Rd_pick.mono _ _ _ _)
      | (with_reducible exact spec_l20Win.mono _ _ _ _)
      | (with_reducible exact LeO.refl _)
      | (with_reducible exact LeO.none _)
      | (with_reducible refine LeO.ite ?_ ?_)
      | (with_reducible refine LeO.bind ?_ (fun _ => ?_))
      | exact ih0 _ _ _ _ _ _ _ _ _ _ _ _
      | exact ih1 _ _ _ _ _ _ _ _ _ _ _ _
      | exact spec_l20Agg.mono _ _ _ _
      | exact spec_l20Rd_pick.mono _ _ _ _
      | exact spec_l20Win.mono _ _ _ _
      | exact LeO.none _
      | refine LeO.ite ?_ ?_
      | refine LeO.bind ?_ (fun _ => ?_)
theorem spec_l20Pane.mono : ∀ a0 a1 a2 k, LeO (spec_l20Pane.f k a0 a1 a2) (spec_l20Pane.f (k + 1) a0 a1 a2) := by
  intro a0 a1 a2 k
  obtain ⟨ih0, ih1⟩ := spec_l20Pane.mono_l k
  unfold spec_l20Pane.f
  repeat' first
      | (with_reducible exact ih0 _ _ _ _ _ _ _ _ _ _ _ _)
      | (with_reducible exact ih1 _ _ _ _ _ _ _ _ _ _ _ _)
      | (with_reducible exact spec_l20Agg.mono _ _ _ _)
      | (with_reducible exact spec_l20Rd_pick.mono _ _ _ _)
      | (with_reducible exact spec_l20Win.mono _ _ _ _)
      | (with_reducible exact LeO.refl _)
      | (with_reducible exact LeO.none _)
      | (with_reducible refine LeO.ite ?_ ?_)
      | (with_reducible refine LeO.bind ?_ (fun _ => ?_))
      | exact ih0 _ _ _ _ _ _ _ _ _ _ _ _
      | exact ih1 _ _ _ _ _ _ _ _ _ _ _ _
      | exact spec_l20Agg.mono _ _ _ _
      | exact spec_l20Rd_pick.mono _ _ _ _
      | exact spec_l20Win.mono _ _ _ _
      | exact LeO.none _
      | refine LeO.ite ?_ ?_
      | refine LeO.bind ?_ (fun _ => ?_)
def spec_l20Pane.T1 : Bool × List (List Nat × List Nat) := (true, [([], []), ([0], [0]), ([], []), ([], []), ([], []), ([2, 3, 4], [2, 3, 4]), ([], []), ([6, 1], [6]), ([5, 7], [5, 7]), ([8], [8]), ([], []), ([10, 7], [10]), ([], []), ([12, 11], [12]), ([13], [13]), ([11, 14, 13], [11, 14]), ([1, 9, 15], [1, 9, 15]), ([], []), ([17, 16, 15, 0, 1, 2, 3, 4, 5, 6, 7, 8, 9, 10, 11, 12, 13, 14, 15, 16, 17], [16, 17])])
def spec_l20Pane.B1 : List Nat := [0, 1, 0, 0, 0, 28, 0, 67, 255, 511, 0, 1219, 0, 7363, 15555, 31939, 65535, 0, 262143]
theorem spec_l20Pane.tab1 : rtab .any (opsOf Try.f93 1) = spec_l20Pane.T1 := by kernel_rfl
theorem spec_l20Pane.bits1 : waitsOk spec_l20Pane.T1.2 spec_l20Pane.B1 = true := by kernel_rfl
def spec_l20Pane.T6 : Bool × List (List Nat × List Nat) := (true, [([], []), ([0], [0]), ([], []), ([2], [2]), ([], []), ([4], [4]), ([5], [5]), ([1, 3, 6], [1, 3, 6]), ([7, 5, 0, 1, 2, 3, 4, 5, 6, 7], [7])])
def spec_l20Pane.B6 : List Nat := [0, 1, 0, 4, 0, 16, 48, 127, 255]
theorem spec_l20Pane.tab6 : rtab .any (opsOf Try.f93 6) = spec_l20Pane.T6 := by kernel_rfl
theorem spec_l20Pane.bits6 : waitsOk spec_l20Pane.T6.2 spec_l20Pane.B6 = true := by kernel_rfl
set_option maxHeartbeats 8000000 in
set_option maxRecDepth 100000 in
theorem spec_l20Pane.calls (k : Nat) (g : Nat) (s0_0 : List Int) (s0_1 : Int) (a1 : Int) (r1 : Int) (r2 : Int) (r3 : Int) (r4 : Int) (r5 : Int) (r6 : Int) (r7 : Int) (r8 : Int) (r9 : Int) (r10 : Int) (w0 w : World) (hI : IsS115 w0 w g s0_0 s0_1) (hB : Below w0.heap.size w0 w) (h : spec_l20Pane.f k s0_0 s0_1 a1 = some (r1, r2, r3, r4, r5, r6, r7, r8, r9, r10)) :
    Calls Try.prog 93 #[.pointer (some ⟨g, 0, none⟩), .int .i64 a1] w fun e w' => e = .returned (.agg #[.int .i64 r1, .int .i64 r2, .int .i64 r3, .int .i64 r4, .int .i64 r5, .int .i64 r6, .int .i64 r7, .int .i64 r8, .int .i64 r9]) ∧ IsS115 w0 w' g s0_0 r10 ∧ Below w0.heap.size w0 w' ∧ KeepBut w w' g none := by
  have hu85 := Try.underlying85
  have hu34 := Try.underlying34
  have hu31 := Try.underlying31
  have HI0 := Aside0.mk hI
  have HG0 := Aside0.mk (show g < w.heap.size from hI.lt)
  have HK := Aside0.mk (KeepBut.refl w g none)
  have HL := Aside0.mk hB.size
  clear hI
  have HW0 := Aside0.mk hB.size
  have HB := Aside0.mk hB
  clear hB
  have H : ((spec_l20Rd_pick.f k s0_0 s0_1 3).bind fun bt174 => ((some (([(⟨0, 5⟩ : S34), (⟨5, 10⟩ : S34), (⟨3, 12⟩ : S34)] : List (S34)) : List (S34))).bind fun y176 => ((spec_l20Rd_pick.f k s0_0 bt174.2 3).bind fun bt179 => (if 0 ≤ bt179.1 then (if bt179.1 < (y176.length : Int) then ((spec_l20Agg.f k s0_0 bt179.2 99).bind fun bt182 => ((spec_l20Rd_pick.f k s0_0 bt182.2.2.2.2 19).bind fun bt187 => ((spec_AggAdd.f bt182.1 bt182.2.1 bt182.2.2.1 bt182.2.2.2.1 (wrap64 (bt187.1 - 9))).bind fun bt189 => ((spec_l20Rd_pick.f k s0_0 bt187.2 2).bind fun bt194 => (if bt194.1 = 0 then ((spec_l20Rd_pick.f k s0_0 bt194.2 3).bind fun bt196 => (spec_l20Pane.j0 k a1 s0_0 bt196.2 bt174.1 ((rd_T34 y176 bt179.1).f0) ((rd_T34 y176 bt179.1).f1) (wrap64 (1 + bt196.1)) 2 bt189.1 bt189.2.1 bt189.2.2.1 bt189.2.2.2)) else (spec_l20Pane.j0 k a1 s0_0 bt194.2 bt174.1 ((rd_T34 y176 bt179.1).f0) ((rd_T34 y176 bt179.1).f1) 0 1 bt189.1 bt189.2.1 bt189.2.2.1 bt189.2.2.2)))))) else (none)) else (none))))) = some (r1, r2, r3, r4, r5, r6, r7, r8, r9, r10) := h
  clear h
  replace H := Option.bind_eq_some_iff.mp H
  obtain ⟨⟨t174, t175⟩, A30, H⟩ := H
  replace H : ((some (([(⟨0, 5⟩ : S34), (⟨5, 10⟩ : S34), (⟨3, 12⟩ : S34)] : List (S34)) : List (S34))).bind fun y176 => ((spec_l20Rd_pick.f k s0_0 t175 3).bind fun bt179 => (if 0 ≤ bt179.1 then (if bt179.1 < (y176.length : Int) then ((spec_l20Agg.f k s0_0 bt179.2 99).bind fun bt182 => ((spec_l20Rd_pick.f k s0_0 bt182.2.2.2.2 19).bind fun bt187 => ((spec_AggAdd.f bt182.1 bt182.2.1 bt182.2.2.1 bt182.2.2.2.1 (wrap64 (bt187.1 - 9))).bind fun bt189 => ((spec_l20Rd_pick.f k s0_0 bt187.2 2).bind fun bt194 => (if bt194.1 = 0 then ((spec_l20Rd_pick.f k s0_0 bt194.2 3).bind fun bt196 => (spec_l20Pane.j0 k a1 s0_0 bt196.2 t174 ((rd_T34 y176 bt179.1).f0) ((rd_T34 y176 bt179.1).f1) (wrap64 (1 + bt196.1)) 2 bt189.1 bt189.2.1 bt189.2.2.1 bt189.2.2.2)) else (spec_l20Pane.j0 k a1 s0_0 bt194.2 t174 ((rd_T34 y176 bt179.1).f0) ((rd_T34 y176 bt179.1).f1) 0 1 bt189.1 bt189.2.1 bt189.2.2.1 bt189.2.2.2)))))) else (none)) else (none)))) = some (r1, r2, r3, r4, r5, r6, r7, r8, r9, r10) := H
  have A3 := Aside0.mk A30
  clear A30
  obtain ⟨y176, hy176⟩ : ∃ y_ : List (S34), y_ = (([(⟨0, 5⟩ : S34), (⟨5, 10⟩ : S34), (⟨3, 12⟩ : S34)] : List (S34))) := ⟨_, rfl⟩
  replace H : ((spec_l20Rd_pick.f k s0_0 t175 3).bind fun bt179 => (if 0 ≤ bt179.1 then (if bt179.1 < (y176.length : Int) then ((spec_l20Agg.f k s0_0 bt179.2 99).bind fun bt182 => ((spec_l20Rd_pick.f k s0_0 bt182.2.2.2.2 19).bind fun bt187 => ((spec_AggAdd.f bt182.1 bt182.2.1 bt182.2.2.1 bt182.2.2.2.1 (wrap64 (bt187.1 - 9))).bind fun bt189 => ((spec_l20Rd_pick.f k s0_0 bt187.2 2).bind fun bt194 => (if bt194.1 = 0 then ((spec_l20Rd_pick.f k s0_0 bt194.2 3).bind fun bt196 => (spec_l20Pane.j0 k a1 s0_0 bt196.2 t174 ((rd_T34 y176 bt179.1).f0) ((rd_T34 y176 bt179.1).f1) (wrap64 (1 + bt196.1)) 2 bt189.1 bt189.2.1 bt189.2.2.1 bt189.2.2.2)) else (spec_l20Pane.j0 k a1 s0_0 bt194.2 t174 ((rd_T34 y176 bt179.1).f0) ((rd_T34 y176 bt179.1).f1) 0 1 bt189.1 bt189.2.1 bt189.2.2.1 bt189.2.2.2)))))) else (none)) else (none))) = some (r1, r2, r3, r4, r5, r6, r7, r8, r9, r10) := by first | (rw [hy176]; with_reducible exact H) | (have H2_ := (Option.bind_some _ _).symm.trans H; rw [hy176]; with_reducible exact H2_) | (have H2_ := (Option.bind_some _ _).symm.trans H; with_reducible exact H2_) | with_reducible exact H | (rw [hy176]; exact H) | exact H
  have Ny176 := Aside0.mk hy176
  clear hy176
  replace H := Option.bind_eq_some_iff.mp H
  obtain ⟨⟨t179, t180⟩, A40, H⟩ := H
  replace H : (if 0 ≤ t179 then (if t179 < (y176.length : Int) then ((spec_l20Agg.f k s0_0 t180 99).bind fun bt182 => ((spec_l20Rd_pick.f k s0_0 bt182.2.2.2.2 19).bind fun bt187 => ((spec_AggAdd.f bt182.1 bt182.2.1 bt182.2.2.1 bt182.2.2.2.1 (wrap64 (bt187.1 - 9))).bind fun bt189 => ((spec_l20Rd_pick.f k s0_0 bt187.2 2).bind fun bt194 => (if bt194.1 = 0 then ((spec_l20Rd_pick.f k s0_0 bt194.2 3).bind fun bt196 => (spec_l20Pane.j0 k a1 s0_0 bt196.2 t174 ((rd_T34 y176 t179).f0) ((rd_T34 y176 t179).f1) (wrap64 (1 + bt196.1)) 2 bt189.1 bt189.2.1 bt189.2.2.1 bt189.2.2.2)) else (spec_l20Pane.j0 k a1 s0_0 bt194.2 t174 ((rd_T34 y176 t179).f0) ((rd_T34 y176 t179).f1) 0 1 bt189.1 bt189.2.1 bt189.2.2.1 bt189.2.2.2)))))) else (none)) else (none)) = some (r1, r2, r3, r4, r5, r6, r7, r8, r9, r10) := H
  have A4 := Aside0.mk A40
  clear A40
  by_cases c5 : 0 ≤ t179
  · rw [if_pos c5] at H
    have c5b0 : decide (0 ≤ t179) = true := decide_eq_true c5
    clear c5
    by_cases c6 : t179 < (y176.length : Int)
    · rw [if_pos c6] at H
      have c6b0 : decide (t179 < (y176.length : Int)) = true := decide_eq_true c6
      clear c6
      replace H := Option.bind_eq_some_iff.mp H
      obtain ⟨⟨t182, t183, t184, t185, t186⟩, A70, H⟩ := H
      replace H : ((spec_l20Rd_pick.f k s0_0 t186 19).bind fun bt187 => ((spec_AggAdd.f t182 t183 t184 t185 (wrap64 (bt187.1 - 9))).bind fun bt189 => ((spec_l20Rd_pick.f k s0_0 bt187.2 2).bind fun bt194 => (if bt194.1 = 0 then ((spec_l20Rd_pick.f k s0_0 bt194.2 3).bind fun bt196 => (spec_l20Pane.j0 k a1 s0_0 bt196.2 t174 ((rd_T34 y176 t179).f0) ((rd_T34 y176 t179).f1) (wrap64 (1 + bt196.1)) 2 bt189.1 bt189.2.1 bt189.2.2.1 bt189.2.2.2)) else (spec_l20Pane.j0 k a1 s0_0 bt194.2 t174 ((rd_T34 y176 t179).f0) ((rd_T34 y176 t179).f1) 0 1 bt189.1 bt189.2.1 bt189.2.2.1 bt189.2.2.2))))) = some (r1, r2, r3, r4, r5, r6, r7, r8, r9, r10) := H
      have A7 := Aside0.mk A70
      clear A70
      replace H := Option.bind_eq_some_iff.mp H
      obtain ⟨⟨t187, t188⟩, A80, H⟩ := H
      replace H : ((spec_AggAdd.f t182 t183 t184 t185 (wrap64 (t187 - 9))).bind fun bt189 => ((spec_l20Rd_pick.f k s0_0 t188 2).bind fun bt194 => (if bt194.1 = 0 then ((spec_l20Rd_pick.f k s0_0 bt194.2 3).bind fun bt196 => (spec_l20Pane.j0 k a1 s0_0 bt196.2 t174 ((rd_T34 y176 t179).f0) ((rd_T34 y176 t179).f1) (wrap64 (1 + bt196.1)) 2 bt189.1 bt189.2.1 bt189.2.2.1 bt189.2.2.2)) else (spec_l20Pane.j0 k a1 s0_0 bt194.2 t174 ((rd_T34 y176 t179).f0) ((rd_T34 y176 t179).f1) 0 1 bt189.1 bt189.2.1 bt189.2.2.1 bt189.2.2.2)))) = some (r1, r2, r3, r4, r5, r6, r7, r8, r9, r10) := H
      have A8 := Aside0.mk A80
      clear A80
      replace H := Option.bind_eq_some_iff.mp H
      obtain ⟨⟨t189, t190, t191, t192⟩, A90, H⟩ := H
      replace H : ((spec_l20Rd_pick.f k s0_0 t188 2).bind fun bt194 => (if bt194.1 = 0 then ((spec_l20Rd_pick.f k s0_0 bt194.2 3).bind fun bt196 => (spec_l20Pane.j0 k a1 s0_0 bt196.2 t174 ((rd_T34 y176 t179).f0) ((rd_T34 y176 t179).f1) (wrap64 (1 + bt196.1)) 2 t189 t190 t191 t192)) else (spec_l20Pane.j0 k a1 s0_0 bt194.2 t174 ((rd_T34 y176 t179).f0) ((rd_T34 y176 t179).f1) 0 1 t189 t190 t191 t192))) = some (r1, r2, r3, r4, r5, r6, r7, r8, r9, r10) := H
      have A9 := Aside0.mk A90
      clear A90
      replace H := Option.bind_eq_some_iff.mp H
      obtain ⟨⟨t194, t195⟩, A100, H⟩ := H
      replace H : (if t194 = 0 then ((spec_l20Rd_pick.f k s0_0 t195 3).bind fun bt196 => (spec_l20Pane.j0 k a1 s0_0 bt196.2 t174 ((rd_T34 y176 t179).f0) ((rd_T34 y176 t179).f1) (wrap64 (1 + bt196.1)) 2 t189 t190 t191 t192)) else (spec_l20Pane.j0 k a1 s0_0 t195 t174 ((rd_T34 y176 t179).f0) ((rd_T34 y176 t179).f1) 0 1 t189 t190 t191 t192)) = some (r1, r2, r3, r4, r5, r6, r7, r8, r9, r10) := H
      have A10 := Aside0.mk A100
      clear A100
      have HC11 := Aside0.mk H
      clear H
      go_enter Try.func93, Try.ntmps93
      try go_wp2_with (first | ((with_reducible refine gate_dst (N := 4) rfl ?_); refine box_event ?hg (N := 4) ?hd (cs := #[.int .i64 0, .int .i64 0, .int .i64 0, .int .i64 0, .int .i64 0, .int .i64 0, .int .i64 0, .int .i64 0, .int .i64 0]) (t := 85) ?hr ?_; (case hd => rfl); (case hg => rfl); (case hr => first | (go_simp; done) | (go_simp; rfl)); intro gb173 hg w12 hbox hb; have n0_ := Aside0.mk (IsS115.below (by repeat (first | (with_reducible first | exact HI0.out | apply IsS115.alloc | apply IsS115.drewN | apply IsS115.drew | apply IsS115.set_1) | exact HI0.out)) hb); have n1_ := Aside0.mk (KeepBut.trans (by repeat (first | (with_reducible first | exact HK.out | apply KeepBut.set_ | apply keep_drewN | apply keep_drew | apply keep_alloc) | exact HK.out)) (KeepBut.of_below hb g none) (.inl rfl)); have n2_ := Aside0.mk (below_step (by repeat (first | (with_reducible first | exact HB.out | apply below_alloc | apply pw_below_drewN | apply below_drew1 | refine below_set ?_ (IsS115.ge HI0.out)) | exact HB.out)) hb); have n3_ := Aside0.mk (hbox); have n4_ := Aside0.mk ((by rw [hg]; exact (keep_size (w := w) (g := g) (row := none) (by repeat (first | (with_reducible first | exact HK.out | apply KeepBut.set_ | apply keep_drewN | apply keep_drew | apply keep_alloc) | exact HK.out))) : w.heap.size ≤ gb173)); have n5_ := Aside0.mk ((Nat.le_trans HW0.out (by rw [hg]; exact (keep_size (w := w) (g := g) (row := none) (by repeat (first | (with_reducible first | exact HK.out | apply KeepBut.set_ | apply keep_drewN | apply keep_drew | apply keep_alloc) | exact HK.out))) : w.heap.size ≤ gb173) : w0.heap.size ≤ gb173)); have n6_ := Aside0.mk ((by rw [hg]; exact Nat.ne_of_lt (Nat.lt_of_lt_of_le HG0.out (keep_size (w := w) (g := g) (row := none) (by repeat (first | (with_reducible first | exact HK.out | apply KeepBut.set_ | apply keep_drewN | apply keep_drew | apply keep_alloc) | exact HK.out)))) : g ≠ gb173)); have n7_ := Aside0.mk ((by rw [hg]; exact Nat.ne_of_gt (Nat.lt_of_lt_of_le HG0.out (keep_size (w := w) (g := g) (row := none) (by repeat (first | (with_reducible first | exact HK.out | apply KeepBut.set_ | apply keep_drewN | apply keep_drew | apply keep_alloc) | exact HK.out)))) : gb173 ≠ g)); clear HI0; clear HK; clear HB; have HI0 := n0_; have HK := n1_; have HB := n2_; have BK173 := n3_; have GW173 := n4_; have GE173 := n5_; have NB0_173 := n6_; have NB173_0 := n7_; clear n0_ n1_ n2_ n3_ n4_ n5_ n6_ n7_; clear hb hbox hg))
      have pi181 : (0 ≤ (t179 : Int)) = True := eq_true (of_decide_eq_true (by first | (with_reducible assumption) | assumption))
      have qi181 : (t179 < (y176.length : Int)) = True := eq_true (of_decide_eq_true (by first | (with_reducible assumption) | assumption))
      have n0_ := Aside0.mk (blk_drew BK173.out)
      have n1_ := Aside0.mk (IsS115.drew HI0.out)
      have n2_ := Aside0.mk (keep_drew HK.out)
      have n3_ := Aside0.mk (below_drew1 HB.out)
      clear BK173
      clear HI0
      clear HK
      clear HB
      have BK173 := n0_
      have HI0 := n1_
      have HK := n2_
      have HB := n3_
      clear n0_ n1_ n2_ n3_
      refine start_ (n := 19) (S := fun w' => True) (ds := []) #[false, false, false, false, false, false, false, false, false, false, false, false, false, false, false, false, false, false, false] (by kernel_rfl) rfl rfl trivial (fun hHeld => ?_); refine with_tabW spec_l20Pane.tab1 spec_l20Pane.bits1 (fun HT_ HW_ => ?_)
      generalize w12.drew = w13 at BK173 HI0 HK HB hHeld ⊢
      refine pure_ (i := 0) (N := some 6) (v := ?_) (a' := ?_) #[true, false, false, false, false, false, false, false, false, false, false, false, false, false, false, false, false, false, false] rfl rfl (any_of HT_.out (by kernel_rfl)) (fun _ _ _ h => h) (Or.inl ⟨by rfl, ?_⟩) ?_ ?_
      rotate_left
      · intro w'
        go_simp
        with_reducible rfl
      rotate_left
      · simp only [Act.put, List.setIfInBounds_toArray, List.set_cons_zero, List.set_cons_succ, i64_w, i32_w]
        rfl
      refine pure_ (i := 6) (N := some 12) (v := ?_) (a' := ?_) #[true, false, false, false, false, false, true, false, false, false, false, false, false, false, false, false, false, false, false] rfl rfl (any_of HT_.out (by kernel_rfl)) (fun _ _ _ h => h) (Or.inl ⟨by rfl, ?_⟩) ?_ ?_
      rotate_left
      · intro w'
        go_simp
        with_reducible rfl
      rotate_left
      · simp only [Act.put, List.setIfInBounds_toArray, List.set_cons_zero, List.set_cons_succ, i64_w, i32_w]
        rfl
      refine pure_ (i := 10) (N := some 16) (v := ?_) (a' := ?_) #[true, false, false, false, false, false, true, false, false, false, true, false, false, false, false, false, false, false, false] rfl rfl (any_of HT_.out (by kernel_rfl)) (fun _ _ _ h => h) (Or.inl ⟨by rfl, ?_⟩) ?_ ?_
      rotate_left
      · intro w'
        go_simp
        with_reducible rfl
      rotate_left
      · simp only [Act.put, List.setIfInBounds_toArray, List.set_cons_zero, List.set_cons_succ, i64_w, i32_w]
        rfl
      refine pure_ (i := 12) (N := some 18) (v := ?_) (a' := ?_) #[true, false, false, false, false, false, true, false, false, false, true, false, true, false, false, false, false, false, false] rfl rfl (any_of HT_.out (by kernel_rfl)) (fun _ _ _ h => h) (Or.inl ⟨by rfl, ?_⟩) ?_ ?_
      rotate_left
      · intro w'
        go_simp
        with_reducible rfl
      rotate_left
      · simp only [Act.put, List.setIfInBounds_toArray, List.set_cons_zero, List.set_cons_succ, i64_w, i32_w]
        rfl
      refine inv_at [1, 2, 3, 4, 5, 7, 8, 9, 11, 13, 14, 15, 16, 17, 18] (fun a0_ b a w' => ∃ (v177 : Value) (adz_v177 : Addr) (gb193 : Nat) (m8_ : Value) (m17_ : Value), a = putSel a0_ b [(1, 7, .int .i64 t174), (2, 8, .agg #[.int .i64 0, .int .i64 5]), (3, 9, .agg #[.int .i64 5, .int .i64 10]), (4, 10, .agg #[.int .i64 3, .int .i64 12]), (5, 11, v177), (7, 13, .int .i64 t179), (8, 14, m8_), (9, 15, .agg #[.int .i64 ((rd_T34 y176 t179).f0), .int .i64 ((rd_T34 y176 t179).f1)]), (11, 17, .agg #[.int .i64 t182, .int .i64 t183, .int .i64 t184, .int .i64 t185]), (13, 19, .int .i64 t187), (14, 20, .int .i64 (wrap64 (t187 - 9))), (15, 21, .agg #[.int .i64 t189, .int .i64 t190, .int .i64 t191, .int .i64 t192]), (16, 22, .agg #[.int .i64 t174, .int .i64 ((rd_T34 y176 t179).f0), .int .i64 ((rd_T34 y176 t179).f1), .int .i64 0, .int .i64 1, .int .i64 t189, .int .i64 t190, .int .i64 t191, .int .i64 t192]), (17, 5, m17_)] ∧ (w'.heap[gb173]? = some (.cells #[.int .i64 0, .int .i64 0, .int .i64 0, .int .i64 0, .int .i64 0, .int .i64 0, .int .i64 0, .int .i64 0, .int .i64 0] 85 (0, 0))) ∧ (b 1 = false → IsS115 w0 w' g s0_0 s0_1) ∧ (KeepBut w w' g none) ∧ (Below w0.heap.size w0 w') ∧ (b 1 = true → b 7 = false → IsS115 w0 w' g s0_0 t175) ∧ (b 5 = true → Kd.R k34 34 w' w.heap.size (fun _ => True) v177 y176) ∧ (b 5 = true → ∃ c_, (v177 : Value) = .slice (some adz_v177) y176.length c_) ∧ (b 7 = true → b 11 = false → IsS115 w0 w' g s0_0 t180) ∧ (b 11 = true → b 13 = false → IsS115 w0 w' g s0_0 t186) ∧ (b 13 = true → IsS115 w0 w' g s0_0 t188) ∧ (b 17 = true → b 18 = false → w'.heap[gb193]? = some (.cells #[.int .i64 0, .int .i64 0, .int .i64 0, .int .i64 0, .int .i64 0, .int .i64 0, .int .i64 0, .int .i64 0, .int .i64 0] 85 (0, 0))) ∧ (b 17 = true → w.heap.size ≤ gb193) ∧ (b 17 = true → w0.heap.size ≤ gb193) ∧ (b 17 = true → g ≠ gb193) ∧ (b 17 = true → gb193 ≠ g) ∧ (b 17 = true → gb173 ≠ gb193) ∧ (b 17 = true → gb193 ≠ gb173) ∧ (b 18 = true → w'.heap[gb193]? = some (.cells #[.int .i64 t174, .int .i64 ((rd_T34 y176 t179).f0), .int .i64 ((rd_T34 y176 t179).f1), .int .i64 0, .int .i64 1, .int .i64 t189, .int .i64 t190, .int .i64 t191, .int .i64 t192] 85 (0, 0))) ∧ (b 8 = true → (m8_ : Value) = .pointer (some (adz_v177.add ((t179).toNat * 2)))) ∧ (b 17 = true → (m17_ : Value) = .pointer (some ⟨gb193, 0, none⟩))) HT_.out HW_.out (by kernel_rfl) (by kernel_rfl) ?_ ?_ ?_
      · exact ⟨.bool false, ⟨0, 0, none⟩, 0, .bool false, .bool false, by simp only [putSel, Bool.false_eq_true, if_false], BK173.out, fun _ => HI0.out, HK.out, HB.out, fun h_ => absurd h_ (by decide), fun h_ => absurd h_ (by decide), fun h_ => absurd h_ (by decide), fun h_ => absurd h_ (by decide), fun h_ => absurd h_ (by decide), fun h_ => absurd h_ (by decide), fun h_ => absurd h_ (by decide), fun h_ => absurd h_ (by decide), fun h_ => absurd h_ (by decide), fun h_ => absurd h_ (by decide), fun h_ => absurd h_ (by decide), fun h_ => absurd h_ (by decide), fun h_ => absurd h_ (by decide), fun h_ => absurd h_ (by decide), fun h_ => absurd h_ (by decide), fun h_ => absurd h_ (by decide)⟩
      · skip
        clear BK173 HB HI0 HK
        refine steps_cons ?_ ?_
        · rintro b a w' ⟨v177, adz_v177, gb193, m8_, m17_, ha, Q_BK173, Q_HI0, Q_HK, Q_HB, Q_HI0_e1, Q_HO178, Q_HA_HO178, Q_HI0_e7, Q_HI0_e11, Q_HI0_e13, Q_BK193, Q_GW193, Q_GE193, Q_NB0_193, Q_NB193_0, Q_NB173_193, Q_NB193_173, Q_BK193_e18, Q_X8_, Q_X17_⟩ hb_ hon hoff
          refine ⟨_, rfl, fun K hK => ?_⟩
          have e6 : a.tmps[6]? = some (.pointer (some ⟨g, 0, none⟩)) := by rw [ha]; exact (putSel_off rfl).trans rfl
          replace ha := Aside0.mk ha
          have BK173 := Aside0.mk Q_BK173
          have HI0 := Aside0.mk (Q_HI0 hb_)
          have HK := Aside0.mk Q_HK
          have HB := Aside0.mk Q_HB
          refine goes_ Try.func74 (by kernel_rfl) rfl #[.pointer (some ⟨g, 0, none⟩), .int .i64 3] (by rfl) rfl rfl (by first | (simp only [List.map_toArray, List.map_cons, List.map_nil, Act.eval, Array.getD_eq_getD_getElem?, Option.getD_some, e6]; done) | (simp only [List.map_toArray, List.map_cons, List.map_nil, Act.eval, Array.getD_eq_getD_getElem?, Option.getD_some, e6]; rfl)) ?_
          with_reducible refine (spec_l20Rd_pick.calls k g s0_0 s0_1 3 t174 t175 w0 _ ?side1 ?side2 A3.out).mono ?_
          (case side1 => repeat (first | (with_reducible first | exact HI0.out | apply IsS115.alloc | apply IsS115.drewN | apply IsS115.drew | apply IsS115.set_1 | refine IsS115.far ?_ NB0_173.out _) | exact HI0.out))
          (case side2 => repeat (first | (with_reducible first | exact HB.out | apply below_alloc | apply pw_below_drewN | apply below_drew1 | refine below_set ?_ (IsS115.ge HI0.out) | refine below_set ?_ GE173.out) | exact HB.out))
          rintro e w14 ⟨rfl, hi, hb, hk⟩
          refine ⟨_, rfl, ?_⟩
          have n0_ := Aside0.mk (KeepBut.blk hk (g' := gb173) (o := .cells #[.int .i64 0, .int .i64 0, .int .i64 0, .int .i64 0, .int .i64 0, .int .i64 0, .int .i64 0, .int .i64 0, .int .i64 0] 85 (0, 0)) (by (with_reducible repeat (first | refine blk_drewN ?_ _ | refine blk_drew ?_ | refine blk_alloc ?_ _)); exact BK173.out) NB173_0.out (by simp))
          have n1_ := Aside0.mk (KeepBut.trans (by repeat (first | (with_reducible first | exact HK.out | apply KeepBut.set_ | apply keep_drewN | apply keep_drew | apply keep_alloc | refine keep_far ?_ GW173.out _) | exact HK.out)) hk (.inl rfl))
          have n2_ := Aside0.mk (hb)
          have n3_ := Aside0.mk (hi)
          have z_HO178 := fun (h0_ : b 5 = true) => (show Kd.R k34 34 w14 w.heap.size (fun _ => True) v177 y176 from by first | exact (Kd.R_mono (Kd.R_keep (IsS115.apart (show IsS115 w0 _ g s0_0 s0_1 from by repeat (first | (with_reducible first | exact HI0.out | apply IsS115.alloc | apply IsS115.drewN | apply IsS115.drew | apply IsS115.set_1 | refine IsS115.far ?_ NB0_173.out _) | exact HI0.out)) (by (with_reducible repeat (first | apply Kd.R_alloc | apply Kd.R_drewN | apply Kd.R_drew)); exact (Q_HO178 h0_)) (by decide)) hk (fun _ h => h.2)) (fun _ h => h.1)) | exact Kd.R_mono (Kd.R_mono (Kd.R_keep (IsS115.apart (show IsS115 w0 _ g s0_0 s0_1 from by repeat (first | (with_reducible first | exact HI0.out | apply IsS115.alloc | apply IsS115.drewN | apply IsS115.drew | apply IsS115.set_1 | refine IsS115.far ?_ NB0_173.out _) | exact HI0.out)) (by (with_reducible repeat (first | apply Kd.R_alloc | apply Kd.R_drewN | apply Kd.R_drew)); exact (Q_HO178 h0_)) (by decide)) hk (fun _ h => h.2)) (fun _ h => h.1)) (fun _ h_ => by first | trivial | exact h_ | exact h_.1))
          have z_BK193 := fun (h0_ : b 17 = true) (h1_ : b 18 = false) => (show w14.heap[gb193]? = some (.cells #[.int .i64 0, .int .i64 0, .int .i64 0, .int .i64 0, .int .i64 0, .int .i64 0, .int .i64 0, .int .i64 0, .int .i64 0] 85 (0, 0)) from by first | exact (KeepBut.blk hk (g' := gb193) (o := .cells #[.int .i64 0, .int .i64 0, .int .i64 0, .int .i64 0, .int .i64 0, .int .i64 0, .int .i64 0, .int .i64 0, .int .i64 0] 85 (0, 0)) (by (with_reducible repeat (first | refine blk_drewN ?_ _ | refine blk_drew ?_ | refine blk_alloc ?_ _)); exact (Q_BK193 h0_ h1_)) (Q_NB193_0 h0_) (by simp)))
          clear BK173
          clear HK
          clear HB
          clear HI0
          have BK173 := n0_
          have HK := n1_
          have HB := n2_
          have HI0 := n3_
          clear n0_ n1_ n2_ n3_
          (try clear hb)
          (try clear hb2)
          (try clear hk)
          (try clear hi)
          refine hK.out _ _ ⟨v177, adz_v177, gb193, m8_, m17_, (by rw [ha.out]; exact putSel_upk 0 hb_ rfl rfl rfl), (by (with_reducible repeat (first | refine blk_drewN ?_ _ | refine blk_drew ?_ | refine blk_alloc ?_ _)); exact BK173.out), fun h0_ => absurd ((up_self b 1).symm.trans h0_) (by decide), (by repeat (first | (with_reducible first | exact HK.out | apply KeepBut.set_ | apply keep_drewN | apply keep_drew | apply keep_alloc | refine keep_far ?_ GW173.out _) | exact HK.out)), (by repeat (first | (with_reducible first | exact HB.out | apply below_alloc | apply pw_below_drewN | apply below_drew1 | refine below_set ?_ (IsS115.ge HI0.out) | refine below_set ?_ GE173.out) | exact HB.out)), fun _ _ => (by repeat (first | (with_reducible first | exact HI0.out | apply IsS115.alloc | apply IsS115.drewN | apply IsS115.drew | apply IsS115.set_1 | refine IsS115.far ?_ NB0_173.out _) | exact HI0.out)), z_HO178, Q_HA_HO178, fun h0_ _ => absurd ((hoff 7 (by kernel_rfl)).symm.trans h0_) (by decide), fun h0_ _ => absurd ((hoff 11 (by kernel_rfl)).symm.trans h0_) (by decide), fun h0_ => absurd ((hoff 13 (by kernel_rfl)).symm.trans h0_) (by decide), z_BK193, Q_GW193, Q_GE193, Q_NB0_193, Q_NB193_0, Q_NB173_193, Q_NB193_173, fun h0_ => absurd ((hoff 18 (by kernel_rfl)).symm.trans h0_) (by decide), fun h0_ => absurd ((hoff 8 (by kernel_rfl)).symm.trans h0_) (by decide), Q_X17_⟩
        refine steps_cons ?_ ?_
        · rintro b a w' ⟨v177, adz_v177, gb193, m8_, m17_, ha, Q_BK173, Q_HI0, Q_HK, Q_HB, Q_HI0_e1, Q_HO178, Q_HA_HO178, Q_HI0_e7, Q_HI0_e11, Q_HI0_e13, Q_BK193, Q_GW193, Q_GE193, Q_NB0_193, Q_NB193_0, Q_NB173_193, Q_NB193_173, Q_BK193_e18, Q_X8_, Q_X17_⟩ hb_ hon hoff
          refine ⟨_, rfl, fun K hK => ?_⟩
          replace ha := Aside0.mk ha
          have BK173 := Aside0.mk Q_BK173
          have HK := Aside0.mk Q_HK
          have HB := Aside0.mk Q_HB
          refine value_ (w1 := w') (v := .agg #[.int .i64 0, .int .i64 5]) (by rfl) rfl ?_ ?_
          · go_simp
            (try simp only [i64_w])
            try rfl
          refine hK.out _ _ ⟨v177, adz_v177, gb193, m8_, m17_, (by rw [ha.out]; exact putSel_upk 1 hb_ rfl rfl rfl), Q_BK173, Q_HI0, Q_HK, Q_HB, Q_HI0_e1, fun h0_ => absurd ((hoff 5 (by kernel_rfl)).symm.trans h0_) (by decide), fun h0_ => absurd ((hoff 5 (by kernel_rfl)).symm.trans h0_) (by decide), Q_HI0_e7, Q_HI0_e11, Q_HI0_e13, Q_BK193, Q_GW193, Q_GE193, Q_NB0_193, Q_NB193_0, Q_NB173_193, Q_NB193_173, fun h0_ => absurd ((hoff 18 (by kernel_rfl)).symm.trans h0_) (by decide), fun h0_ => absurd ((hoff 8 (by kernel_rfl)).symm.trans h0_) (by decide), Q_X17_⟩
        refine steps_cons ?_ ?_
        · rintro b a w' ⟨v177, adz_v177, gb193, m8_, m17_, ha, Q_BK173, Q_HI0, Q_HK, Q_HB, Q_HI0_e1, Q_HO178, Q_HA_HO178, Q_HI0_e7, Q_HI0_e11, Q_HI0_e13, Q_BK193, Q_GW193, Q_GE193, Q_NB0_193, Q_NB193_0, Q_NB173_193, Q_NB193_173, Q_BK193_e18, Q_X8_, Q_X17_⟩ hb_ hon hoff
          refine ⟨_, rfl, fun K hK => ?_⟩
          replace ha := Aside0.mk ha
          have BK173 := Aside0.mk Q_BK173
          have HK := Aside0.mk Q_HK
          have HB := Aside0.mk Q_HB
          refine value_ (w1 := w') (v := .agg #[.int .i64 5, .int .i64 10]) (by rfl) rfl ?_ ?_
          · go_simp
            (try simp only [i64_w])
            try rfl
          refine hK.out _ _ ⟨v177, adz_v177, gb193, m8_, m17_, (by rw [ha.out]; exact putSel_upk 2 hb_ rfl rfl rfl), Q_BK173, Q_HI0, Q_HK, Q_HB, Q_HI0_e1, fun h0_ => absurd ((hoff 5 (by kernel_rfl)).symm.trans h0_) (by decide), fun h0_ => absurd ((hoff 5 (by kernel_rfl)).symm.trans h0_) (by decide), Q_HI0_e7, Q_HI0_e11, Q_HI0_e13, Q_BK193, Q_GW193, Q_GE193, Q_NB0_193, Q_NB193_0, Q_NB173_193, Q_NB193_173, fun h0_ => absurd ((hoff 18 (by kernel_rfl)).symm.trans h0_) (by decide), fun h0_ => absurd ((hoff 8 (by kernel_rfl)).symm.trans h0_) (by decide), Q_X17_⟩
        refine steps_cons ?_ ?_
        · rintro b a w' ⟨v177, adz_v177, gb193, m8_, m17_, ha, Q_BK173, Q_HI0, Q_HK, Q_HB, Q_HI0_e1, Q_HO178, Q_HA_HO178, Q_HI0_e7, Q_HI0_e11, Q_HI0_e13, Q_BK193, Q_GW193, Q_GE193, Q_NB0_193, Q_NB193_0, Q_NB173_193, Q_NB193_173, Q_BK193_e18, Q_X8_, Q_X17_⟩ hb_ hon hoff
          refine ⟨_, rfl, fun K hK => ?_⟩
          replace ha := Aside0.mk ha
          have BK173 := Aside0.mk Q_BK173
          have HK := Aside0.mk Q_HK
          have HB := Aside0.mk Q_HB
          refine value_ (w1 := w') (v := .agg #[.int .i64 3, .int .i64 12]) (by rfl) rfl ?_ ?_
          · go_simp
            (try simp only [i64_w])
            try rfl
          refine hK.out _ _ ⟨v177, adz_v177, gb193, m8_, m17_, (by rw [ha.out]; exact putSel_upk 3 hb_ rfl rfl rfl), Q_BK173, Q_HI0, Q_HK, Q_HB, Q_HI0_e1, fun h0_ => absurd ((hoff 5 (by kernel_rfl)).symm.trans h0_) (by decide), fun h0_ => absurd ((hoff 5 (by kernel_rfl)).symm.trans h0_) (by decide), Q_HI0_e7, Q_HI0_e11, Q_HI0_e13, Q_BK193, Q_GW193, Q_GE193, Q_NB0_193, Q_NB193_0, Q_NB173_193, Q_NB193_173, fun h0_ => absurd ((hoff 18 (by kernel_rfl)).symm.trans h0_) (by decide), fun h0_ => absurd ((hoff 8 (by kernel_rfl)).symm.trans h0_) (by decide), Q_X17_⟩
        refine steps_cons ?_ ?_
        · rintro b a w' ⟨v177, adz_v177, gb193, m8_, m17_, ha, Q_BK173, Q_HI0, Q_HK, Q_HB, Q_HI0_e1, Q_HO178, Q_HA_HO178, Q_HI0_e7, Q_HI0_e11, Q_HI0_e13, Q_BK193, Q_GW193, Q_GE193, Q_NB0_193, Q_NB193_0, Q_NB173_193, Q_NB193_173, Q_BK193_e18, Q_X8_, Q_X17_⟩ hb_ hon hoff
          refine ⟨_, rfl, fun K hK => ?_⟩
          have e8 : a.tmps[8]? = some (.agg #[.int .i64 0, .int .i64 5]) := by rw [ha]; exact putSel_on (e := (2, 8, .agg #[.int .i64 0, .int .i64 5])) 1 rfl rfl (hon 2 (by kernel_rfl)) rfl
          have e9 : a.tmps[9]? = some (.agg #[.int .i64 5, .int .i64 10]) := by rw [ha]; exact putSel_on (e := (3, 9, .agg #[.int .i64 5, .int .i64 10])) 2 rfl rfl (hon 3 (by kernel_rfl)) rfl
          have e10 : a.tmps[10]? = some (.agg #[.int .i64 3, .int .i64 12]) := by rw [ha]; exact putSel_on (e := (4, 10, .agg #[.int .i64 3, .int .i64 12])) 3 rfl rfl (hon 4 (by kernel_rfl)) rfl
          replace ha := Aside0.mk ha
          have BK173 := Aside0.mk Q_BK173
          have HK := Aside0.mk Q_HK
          have HB := Aside0.mk Q_HB
          refine Kd.R_lit_step k34 _ 34 ?hg (N := 11) ?hd (xs := ([(⟨0, 5⟩ : S34), (⟨5, 10⟩ : S34), (⟨3, 12⟩ : S34)] : List (S34))) (inner := [.int .i64 0, .int .i64 5, .int .i64 5, .int .i64 10, .int .i64 3, .int .i64 12]) (ok := fun _ => True) (okp := fun _ => True) ?hr ?hp (fun _ hk => hk) trivial (Below.refl _ _) (Nat.le_refl _) (by simp) ?_; (case hd => rfl); (case hg => rfl); (case hr => first | (go_simp; done) | (go_simp; rfl)); (case hp => exact (Reps.c2 (show Kd.M k34 _ _ _ (⟨0, 5⟩ : S34) [.int .i64 0, .int .i64 5] from (k34_mkM _ _ _ (⟨0, 5⟩ : S34) )) (Reps.c2 (show Kd.M k34 _ _ _ (⟨5, 10⟩ : S34) [.int .i64 5, .int .i64 10] from (k34_mkM _ _ _ (⟨5, 10⟩ : S34) )) (Reps.c2 (show Kd.M k34 _ _ _ (⟨3, 12⟩ : S34) [.int .i64 3, .int .i64 12] from (k34_mkM _ _ _ (⟨3, 12⟩ : S34) )) (Reps.none _ _)))))
          intro v177 w14 ho15 hb hg_ hnew_
          clear hg_ hnew_
          (first | rw [← Ny176.out] at ho15 | (simp only [Int.reduceToNat] at ho15; rw [← Ny176.out] at ho15))
          have n0_ := Aside0.mk (Kd.R_lower ho15 (keep_size (w := w) (g := g) (row := none) (by repeat (first | (with_reducible first | exact HK.out | apply KeepBut.set_ | apply keep_drewN | apply keep_drew | apply keep_alloc | refine keep_far ?_ GW173.out _) | exact HK.out))))
          have n2_ := Aside0.mk (blk_below (g := gb173) (o := .cells #[.int .i64 0, .int .i64 0, .int .i64 0, .int .i64 0, .int .i64 0, .int .i64 0, .int .i64 0, .int .i64 0, .int .i64 0] 85 (0, 0)) (by (with_reducible repeat (first | refine blk_drewN ?_ _ | refine blk_drew ?_ | refine blk_alloc ?_ _)); exact BK173.out) hb)
          have n3_ := Aside0.mk (KeepBut.trans (by repeat (first | (with_reducible first | exact HK.out | apply KeepBut.set_ | apply keep_drewN | apply keep_drew | apply keep_alloc | refine keep_far ?_ GW173.out _) | exact HK.out)) (KeepBut.of_below hb g none) (.inl rfl))
          have n4_ := Aside0.mk (below_step (by repeat (first | (with_reducible first | exact HB.out | apply below_alloc | apply pw_below_drewN | apply below_drew1 | refine below_set ?_ GE173.out) | exact HB.out)) hb)
          have z_HI0 := fun (h0_ : b 1 = false) => (show IsS115 w0 w14 g s0_0 s0_1 from by first | exact (IsS115.below (by repeat (first | (with_reducible first | exact (Q_HI0 h0_) | apply IsS115.alloc | apply IsS115.drewN | apply IsS115.drew | apply IsS115.set_1 | refine IsS115.far ?_ NB0_173.out _) | exact (Q_HI0 h0_))) hb))
          have z_HI0_e1 := fun (h0_ : b 1 = true) (h1_ : b 7 = false) => (show IsS115 w0 w14 g s0_0 t175 from by first | exact (IsS115.below (by repeat (first | (with_reducible first | exact (Q_HI0_e1 h0_ h1_) | apply IsS115.alloc | apply IsS115.drewN | apply IsS115.drew | apply IsS115.set_1 | refine IsS115.far ?_ NB0_173.out _) | exact (Q_HI0_e1 h0_ h1_))) hb))
          have z_HI0_e7 := fun (h0_ : b 7 = true) (h1_ : b 11 = false) => (show IsS115 w0 w14 g s0_0 t180 from by first | exact (IsS115.below (by repeat (first | (with_reducible first | exact (Q_HI0_e7 h0_ h1_) | apply IsS115.alloc | apply IsS115.drewN | apply IsS115.drew | apply IsS115.set_1 | refine IsS115.far ?_ NB0_173.out _) | exact (Q_HI0_e7 h0_ h1_))) hb))
          have z_HI0_e11 := fun (h0_ : b 11 = true) (h1_ : b 13 = false) => (show IsS115 w0 w14 g s0_0 t186 from by first | exact (IsS115.below (by repeat (first | (with_reducible first | exact (Q_HI0_e11 h0_ h1_) | apply IsS115.alloc | apply IsS115.drewN | apply IsS115.drew | apply IsS115.set_1 | refine IsS115.far ?_ NB0_173.out _) | exact (Q_HI0_e11 h0_ h1_))) hb))
          have z_HI0_e13 := fun (h0_ : b 13 = true) => (show IsS115 w0 w14 g s0_0 t188 from by first | exact (IsS115.below (by repeat (first | (with_reducible first | exact (Q_HI0_e13 h0_) | apply IsS115.alloc | apply IsS115.drewN | apply IsS115.drew | apply IsS115.set_1 | refine IsS115.far ?_ NB0_173.out _) | exact (Q_HI0_e13 h0_))) hb))
          have z_BK193 := fun (h0_ : b 17 = true) (h1_ : b 18 = false) => (show w14.heap[gb193]? = some (.cells #[.int .i64 0, .int .i64 0, .int .i64 0, .int .i64 0, .int .i64 0, .int .i64 0, .int .i64 0, .int .i64 0, .int .i64 0] 85 (0, 0)) from by first | exact (blk_below (g := gb193) (o := .cells #[.int .i64 0, .int .i64 0, .int .i64 0, .int .i64 0, .int .i64 0, .int .i64 0, .int .i64 0, .int .i64 0, .int .i64 0] 85 (0, 0)) (by (with_reducible repeat (first | refine blk_drewN ?_ _ | refine blk_drew ?_ | refine blk_alloc ?_ _)); exact (Q_BK193 h0_ h1_)) hb))
          clear BK173
          clear HK
          clear HB
          have HO178 := n0_
          have BK173 := n2_
          have HK := n3_
          have HB := n4_
          clear n0_ n2_ n3_ n4_
          clear hb ho15
          obtain ⟨Ao16, co16, eo16⟩ := Kd.R_slice HO178.out
          subst eo16
          obtain ⟨ado16, fo16, _⟩ := at_T34 (Kd.R_reads' HO178.out).2.2 0 (by decide) (by rw [Ny176.out]; simp)
          cases fo16
          refine hK.out _ _ ⟨.slice (some ado16) y176.length co16, ado16, gb193, m8_, m17_, (by rw [ha.out]; exact putSel_upk 4 hb_ rfl rfl rfl), (by (with_reducible repeat (first | refine blk_drewN ?_ _ | refine blk_drew ?_ | refine blk_alloc ?_ _)); exact BK173.out), z_HI0, (by repeat (first | (with_reducible first | exact HK.out | apply KeepBut.set_ | apply keep_drewN | apply keep_drew | apply keep_alloc | refine keep_far ?_ GW173.out _) | exact HK.out)), (by repeat (first | (with_reducible first | exact HB.out | apply below_alloc | apply pw_below_drewN | apply below_drew1 | refine below_set ?_ GE173.out) | exact HB.out)), z_HI0_e1, fun _ => (by (with_reducible repeat (first | apply Kd.R_alloc | apply Kd.R_drewN | apply Kd.R_drew)); exact HO178.out), fun _ => ⟨_, rfl⟩, z_HI0_e7, z_HI0_e11, z_HI0_e13, z_BK193, Q_GW193, Q_GE193, Q_NB0_193, Q_NB193_0, Q_NB173_193, Q_NB193_173, fun h0_ => absurd ((hoff 18 (by kernel_rfl)).symm.trans h0_) (by decide), fun h0_ => absurd ((hoff 8 (by kernel_rfl)).symm.trans h0_) (by decide), Q_X17_⟩
        refine steps_cons ?_ ?_
        · rintro b a w' ⟨v177, adz_v177, gb193, m8_, m17_, ha, Q_BK173, Q_HI0, Q_HK, Q_HB, Q_HI0_e1, Q_HO178, Q_HA_HO178, Q_HI0_e7, Q_HI0_e11, Q_HI0_e13, Q_BK193, Q_GW193, Q_GE193, Q_NB0_193, Q_NB193_0, Q_NB173_193, Q_NB193_173, Q_BK193_e18, Q_X8_, Q_X17_⟩ hb_ hon hoff
          refine ⟨_, rfl, fun K hK => ?_⟩
          have e12 : a.tmps[12]? = some (.pointer (some ⟨g, 0, none⟩)) := by rw [ha]; exact (putSel_off rfl).trans rfl
          replace ha := Aside0.mk ha
          have BK173 := Aside0.mk Q_BK173
          have HK := Aside0.mk Q_HK
          have HB := Aside0.mk Q_HB
          have HI0 := Aside0.mk (Q_HI0_e1 (hon 1 (by kernel_rfl)) hb_)
          refine goes_ Try.func74 (by kernel_rfl) rfl #[.pointer (some ⟨g, 0, none⟩), .int .i64 3] (by rfl) rfl rfl (by first | (simp only [List.map_toArray, List.map_cons, List.map_nil, Act.eval, Array.getD_eq_getD_getElem?, Option.getD_some, e12]; done) | (simp only [List.map_toArray, List.map_cons, List.map_nil, Act.eval, Array.getD_eq_getD_getElem?, Option.getD_some, e12]; rfl)) ?_
          with_reducible refine (spec_l20Rd_pick.calls k g s0_0 t175 3 t179 t180 w0 _ ?side1 ?side2 A4.out).mono ?_
          (case side1 => repeat (first | (with_reducible first | exact HI0.out | apply IsS115.alloc | apply IsS115.drewN | apply IsS115.drew | apply IsS115.set_1 | refine IsS115.far ?_ NB0_173.out _) | exact HI0.out))
          (case side2 => repeat (first | (with_reducible first | exact HB.out | apply below_alloc | apply pw_below_drewN | apply below_drew1 | refine below_set ?_ (IsS115.ge HI0.out) | refine below_set ?_ GE173.out) | exact HB.out))
          rintro e w16 ⟨rfl, hi, hb, hk⟩
          refine ⟨_, rfl, ?_⟩
          have n0_ := Aside0.mk (KeepBut.blk hk (g' := gb173) (o := .cells #[.int .i64 0, .int .i64 0, .int .i64 0, .int .i64 0, .int .i64 0, .int .i64 0, .int .i64 0, .int .i64 0, .int .i64 0] 85 (0, 0)) (by (with_reducible repeat (first | refine blk_drewN ?_ _ | refine blk_drew ?_ | refine blk_alloc ?_ _)); exact BK173.out) NB173_0.out (by simp))
          have n1_ := Aside0.mk (KeepBut.trans (by repeat (first | (with_reducible first | exact HK.out | apply KeepBut.set_ | apply keep_drewN | apply keep_drew | apply keep_alloc | refine keep_far ?_ GW173.out _) | exact HK.out)) hk (.inl rfl))
          have n2_ := Aside0.mk (hb)
          have n3_ := Aside0.mk (hi)
          have z_HO178 := fun (h0_ : b 5 = true) => (show Kd.R k34 34 w16 w.heap.size (fun _ => True) v177 y176 from by first | exact (Kd.R_mono (Kd.R_keep (IsS115.apart (show IsS115 w0 _ g s0_0 t175 from by repeat (first | (with_reducible first | exact HI0.out | apply IsS115.alloc | apply IsS115.drewN | apply IsS115.drew | apply IsS115.set_1 | refine IsS115.far ?_ NB0_173.out _) | exact HI0.out)) (by (with_reducible repeat (first | apply Kd.R_alloc | apply Kd.R_drewN | apply Kd.R_drew)); exact (Q_HO178 h0_)) (by decide)) hk (fun _ h => h.2)) (fun _ h => h.1)) | exact Kd.R_mono (Kd.R_mono (Kd.R_keep (IsS115.apart (show IsS115 w0 _ g s0_0 t175 from by repeat (first | (with_reducible first | exact HI0.out | apply IsS115.alloc | apply IsS115.drewN | apply IsS115.drew | apply IsS115.set_1 | refine IsS115.far ?_ NB0_173.out _) | exact HI0.out)) (by (with_reducible repeat (first | apply Kd.R_alloc | apply Kd.R_drewN | apply Kd.R_drew)); exact (Q_HO178 h0_)) (by decide)) hk (fun _ h => h.2)) (fun _ h => h.1)) (fun _ h_ => by first | trivial | exact h_ | exact h_.1))
          have z_BK193 := fun (h0_ : b 17 = true) (h1_ : b 18 = false) => (show w16.heap[gb193]? = some (.cells #[.int .i64 0, .int .i64 0, .int .i64 0, .int .i64 0, .int .i64 0, .int .i64 0, .int .i64 0, .int .i64 0, .int .i64 0] 85 (0, 0)) from by first | exact (KeepBut.blk hk (g' := gb193) (o := .cells #[.int .i64 0, .int .i64 0, .int .i64 0, .int .i64 0, .int .i64 0, .int .i64 0, .int .i64 0, .int .i64 0, .int .i64 0] 85 (0, 0)) (by (with_reducible repeat (first | refine blk_drewN ?_ _ | refine blk_drew ?_ | refine blk_alloc ?_ _)); exact (Q_BK193 h0_ h1_)) (Q_NB193_0 h0_) (by simp)))
          clear BK173
          clear HK
          clear HB
          clear HI0
          have BK173 := n0_
          have HK := n1_
          have HB := n2_
          have HI0 := n3_
          clear n0_ n1_ n2_ n3_
          (try clear hb)
          (try clear hb2)
          (try clear hk)
          (try clear hi)
          refine hK.out _ _ ⟨v177, adz_v177, gb193, m8_, m17_, (by rw [ha.out]; exact putSel_upk 5 hb_ rfl rfl rfl), (by (with_reducible repeat (first | refine blk_drewN ?_ _ | refine blk_drew ?_ | refine blk_alloc ?_ _)); exact BK173.out), fun h0_ => absurd ((hon 1 (by kernel_rfl)).symm.trans h0_) (by decide), (by repeat (first | (with_reducible first | exact HK.out | apply KeepBut.set_ | apply keep_drewN | apply keep_drew | apply keep_alloc | refine keep_far ?_ GW173.out _) | exact HK.out)), (by repeat (first | (with_reducible first | exact HB.out | apply below_alloc | apply pw_below_drewN | apply below_drew1 | refine below_set ?_ (IsS115.ge HI0.out) | refine below_set ?_ GE173.out) | exact HB.out)), fun _ h1_ => absurd ((up_self b 7).symm.trans h1_) (by decide), z_HO178, Q_HA_HO178, fun _ _ => (by repeat (first | (with_reducible first | exact HI0.out | apply IsS115.alloc | apply IsS115.drewN | apply IsS115.drew | apply IsS115.set_1 | refine IsS115.far ?_ NB0_173.out _) | exact HI0.out)), fun h0_ _ => absurd ((hoff 11 (by kernel_rfl)).symm.trans h0_) (by decide), fun h0_ => absurd ((hoff 13 (by kernel_rfl)).symm.trans h0_) (by decide), z_BK193, Q_GW193, Q_GE193, Q_NB0_193, Q_NB193_0, Q_NB173_193, Q_NB193_173, fun h0_ => absurd ((hoff 18 (by kernel_rfl)).symm.trans h0_) (by decide), fun h0_ => absurd ((hoff 8 (by kernel_rfl)).symm.trans h0_) (by decide), Q_X17_⟩
        refine steps_cons ?_ ?_
        · rintro b a w' ⟨v177, adz_v177, gb193, m8_, m17_, ha, Q_BK173, Q_HI0, Q_HK, Q_HB, Q_HI0_e1, Q_HO178, Q_HA_HO178, Q_HI0_e7, Q_HI0_e11, Q_HI0_e13, Q_BK193, Q_GW193, Q_GE193, Q_NB0_193, Q_NB193_0, Q_NB173_193, Q_NB193_173, Q_BK193_e18, Q_X8_, Q_X17_⟩ hb_ hon hoff
          refine ⟨_, rfl, fun K hK => ?_⟩
          have e11 : a.tmps[11]? = some (v177) := by rw [ha]; exact putSel_on (e := (5, 11, v177)) 4 rfl rfl (hon 5 (by kernel_rfl)) rfl
          have e13 : a.tmps[13]? = some (.int .i64 t179) := by rw [ha]; exact putSel_on (e := (7, 13, .int .i64 t179)) 5 rfl rfl (hon 7 (by kernel_rfl)) rfl
          replace ha := Aside0.mk ha
          have BK173 := Aside0.mk Q_BK173
          have HK := Aside0.mk Q_HK
          have HB := Aside0.mk Q_HB
          have HO178 := Aside0.mk (Q_HO178 (hon 5 (by kernel_rfl)))
          have HA_HO178 := Aside0.mk (Q_HA_HO178 (hon 5 (by kernel_rfl)))
          obtain ⟨c_, hv_⟩ := HA_HO178.out
          rw [hv_] at e11
          refine value_ (w1 := w') (v := .pointer (some (adz_v177.add ((t179).toNat * 2)))) (by rfl) rfl ?_ ?_
          · go_simp
            (try simp only [i64_w])
            try rfl
          refine hK.out _ _ ⟨v177, adz_v177, gb193, (.pointer (some (adz_v177.add ((t179).toNat * 2)))), m17_, (by rw [ha.out]; exact putSel_upk 6 hb_ rfl rfl rfl), Q_BK173, fun h0_ => absurd ((hon 1 (by kernel_rfl)).symm.trans h0_) (by decide), Q_HK, Q_HB, fun _ h1_ => absurd ((hon 7 (by kernel_rfl)).symm.trans h1_) (by decide), Q_HO178, Q_HA_HO178, Q_HI0_e7, Q_HI0_e11, Q_HI0_e13, Q_BK193, Q_GW193, Q_GE193, Q_NB0_193, Q_NB193_0, Q_NB173_193, Q_NB193_173, fun h0_ => absurd ((hoff 18 (by kernel_rfl)).symm.trans h0_) (by decide), fun _ => rfl, Q_X17_⟩
        refine steps_cons ?_ ?_
        · rintro b a w' ⟨v177, adz_v177, gb193, m8_, m17_, ha, Q_BK173, Q_HI0, Q_HK, Q_HB, Q_HI0_e1, Q_HO178, Q_HA_HO178, Q_HI0_e7, Q_HI0_e11, Q_HI0_e13, Q_BK193, Q_GW193, Q_GE193, Q_NB0_193, Q_NB193_0, Q_NB173_193, Q_NB193_173, Q_BK193_e18, Q_X8_, Q_X17_⟩ hb_ hon hoff
          refine ⟨_, rfl, fun K hK => ?_⟩
          have e14 : a.tmps[14]? = some (m8_) := by rw [ha]; exact putSel_on (e := (8, 14, m8_)) 6 rfl rfl (hon 8 (by kernel_rfl)) rfl
          rw [Q_X8_ (hon 8 (by kernel_rfl))] at e14
          replace ha := Aside0.mk ha
          have BK173 := Aside0.mk Q_BK173
          have HK := Aside0.mk Q_HK
          have HB := Aside0.mk Q_HB
          have HO178 := Aside0.mk (Q_HO178 (hon 5 (by kernel_rfl)))
          have HA_HO178 := Aside0.mk (Q_HA_HO178 (hon 5 (by kernel_rfl)))
          obtain ⟨c_, hv_⟩ := HA_HO178.out
          have hF_ := HO178.out
          rw [hv_] at hF_
          obtain ⟨ad_, ea_, hx_, hx1_⟩ := at_T34 (Kd.R_reads' hF_).2.2 t179 (of_eq_true pi181) (of_eq_true qi181)
          cases ea_
          refine value_ (w1 := w') (v := .agg #[.int .i64 ((rd_T34 y176 t179).f0), .int .i64 ((rd_T34 y176 t179).f1)]) (by rfl) rfl ?_ ?_
          · go_simp
            (try simp only [i64_w])
            try rfl
          refine hK.out _ _ ⟨v177, adz_v177, gb193, m8_, m17_, (by rw [ha.out]; exact putSel_upk 7 hb_ rfl rfl rfl), Q_BK173, fun h0_ => absurd ((hon 1 (by kernel_rfl)).symm.trans h0_) (by decide), Q_HK, Q_HB, fun _ h1_ => absurd ((hon 7 (by kernel_rfl)).symm.trans h1_) (by decide), Q_HO178, Q_HA_HO178, Q_HI0_e7, Q_HI0_e11, Q_HI0_e13, Q_BK193, Q_GW193, Q_GE193, Q_NB0_193, Q_NB193_0, Q_NB173_193, Q_NB193_173, fun h0_ => absurd ((hoff 18 (by kernel_rfl)).symm.trans h0_) (by decide), Q_X8_, Q_X17_⟩
        refine steps_cons ?_ ?_
        · rintro b a w' ⟨v177, adz_v177, gb193, m8_, m17_, ha, Q_BK173, Q_HI0, Q_HK, Q_HB, Q_HI0_e1, Q_HO178, Q_HA_HO178, Q_HI0_e7, Q_HI0_e11, Q_HI0_e13, Q_BK193, Q_GW193, Q_GE193, Q_NB0_193, Q_NB193_0, Q_NB173_193, Q_NB193_173, Q_BK193_e18, Q_X8_, Q_X17_⟩ hb_ hon hoff
          refine ⟨_, rfl, fun K hK => ?_⟩
          have e16 : a.tmps[16]? = some (.pointer (some ⟨g, 0, none⟩)) := by rw [ha]; exact (putSel_off rfl).trans rfl
          replace ha := Aside0.mk ha
          have BK173 := Aside0.mk Q_BK173
          have HK := Aside0.mk Q_HK
          have HB := Aside0.mk Q_HB
          have HI0 := Aside0.mk (Q_HI0_e7 (hon 7 (by kernel_rfl)) hb_)
          refine goes_ Try.func95 (by kernel_rfl) rfl #[.pointer (some ⟨g, 0, none⟩), .int .i64 99] (by rfl) rfl rfl (by first | (simp only [List.map_toArray, List.map_cons, List.map_nil, Act.eval, Array.getD_eq_getD_getElem?, Option.getD_some, e16]; done) | (simp only [List.map_toArray, List.map_cons, List.map_nil, Act.eval, Array.getD_eq_getD_getElem?, Option.getD_some, e16]; rfl)) ?_
          with_reducible refine (spec_l20Agg.calls k g s0_0 t180 99 t182 t183 t184 t185 t186 w0 _ ?side1 ?side2 A7.out).mono ?_
          (case side1 => repeat (first | (with_reducible first | exact HI0.out | apply IsS115.alloc | apply IsS115.drewN | apply IsS115.drew | apply IsS115.set_1 | refine IsS115.far ?_ NB0_173.out _) | exact HI0.out))
          (case side2 => repeat (first | (with_reducible first | exact HB.out | apply below_alloc | apply pw_below_drewN | apply below_drew1 | refine below_set ?_ (IsS115.ge HI0.out) | refine below_set ?_ GE173.out) | exact HB.out))
          rintro e w17 ⟨rfl, hi, hb, hk⟩
          refine ⟨_, rfl, ?_⟩
          have n0_ := Aside0.mk (KeepBut.blk hk (g' := gb173) (o := .cells #[.int .i64 0, .int .i64 0, .int .i64 0, .int .i64 0, .int .i64 0, .int .i64 0, .int .i64 0, .int .i64 0, .int .i64 0] 85 (0, 0)) (by (with_reducible repeat (first | refine blk_drewN ?_ _ | refine blk_drew ?_ | refine blk_alloc ?_ _)); exact BK173.out) NB173_0.out (by simp))
          have n1_ := Aside0.mk (KeepBut.trans (by repeat (first | (with_reducible first | exact HK.out | apply KeepBut.set_ | apply keep_drewN | apply keep_drew | apply keep_alloc | refine keep_far ?_ GW173.out _) | exact HK.out)) hk (.inl rfl))
          have n2_ := Aside0.mk (hb)
          have n3_ := Aside0.mk (hi)
          have z_HO178 := fun (h0_ : b 5 = true) => (show Kd.R k34 34 w17 w.heap.size (fun _ => True) v177 y176 from by first | exact (Kd.R_mono (Kd.R_keep (IsS115.apart (show IsS115 w0 _ g s0_0 t180 from by repeat (first | (with_reducible first | exact HI0.out | apply IsS115.alloc | apply IsS115.drewN | apply IsS115.drew | apply IsS115.set_1 | refine IsS115.far ?_ NB0_173.out _) | exact HI0.out)) (by (with_reducible repeat (first | apply Kd.R_alloc | apply Kd.R_drewN | apply Kd.R_drew)); exact (Q_HO178 h0_)) (by decide)) hk (fun _ h => h.2)) (fun _ h => h.1)) | exact Kd.R_mono (Kd.R_mono (Kd.R_keep (IsS115.apart (show IsS115 w0 _ g s0_0 t180 from by repeat (first | (with_reducible first | exact HI0.out | apply IsS115.alloc | apply IsS115.drewN | apply IsS115.drew | apply IsS115.set_1 | refine IsS115.far ?_ NB0_173.out _) | exact HI0.out)) (by (with_reducible repeat (first | apply Kd.R_alloc | apply Kd.R_drewN | apply Kd.R_drew)); exact (Q_HO178 h0_)) (by decide)) hk (fun _ h => h.2)) (fun _ h => h.1)) (fun _ h_ => by first | trivial | exact h_ | exact h_.1))
          have z_BK193 := fun (h0_ : b 17 = true) (h1_ : b 18 = false) => (show w17.heap[gb193]? = some (.cells #[.int .i64 0, .int .i64 0, .int .i64 0, .int .i64 0, .int .i64 0, .int .i64 0, .int .i64 0, .int .i64 0, .int .i64 0] 85 (0, 0)) from by first | exact (KeepBut.blk hk (g' := gb193) (o := .cells #[.int .i64 0, .int .i64 0, .int .i64 0, .int .i64 0, .int .i64 0, .int .i64 0, .int .i64 0, .int .i64 0, .int .i64 0] 85 (0, 0)) (by (with_reducible repeat (first | refine blk_drewN ?_ _ | refine blk_drew ?_ | refine blk_alloc ?_ _)); exact (Q_BK193 h0_ h1_)) (Q_NB193_0 h0_) (by simp)))
          clear BK173
          clear HK
          clear HB
          clear HI0
          have BK173 := n0_
          have HK := n1_
          have HB := n2_
          have HI0 := n3_
          clear n0_ n1_ n2_ n3_
          (try clear hb)
          (try clear hb2)
          (try clear hk)
          (try clear hi)
          refine hK.out _ _ ⟨v177, adz_v177, gb193, m8_, m17_, (by rw [ha.out]; exact putSel_upk 8 hb_ rfl rfl rfl), (by (with_reducible repeat (first | refine blk_drewN ?_ _ | refine blk_drew ?_ | refine blk_alloc ?_ _)); exact BK173.out), fun h0_ => absurd ((hon 1 (by kernel_rfl)).symm.trans h0_) (by decide), (by repeat (first | (with_reducible first | exact HK.out | apply KeepBut.set_ | apply keep_drewN | apply keep_drew | apply keep_alloc | refine keep_far ?_ GW173.out _) | exact HK.out)), (by repeat (first | (with_reducible first | exact HB.out | apply below_alloc | apply pw_below_drewN | apply below_drew1 | refine below_set ?_ (IsS115.ge HI0.out) | refine below_set ?_ GE173.out) | exact HB.out)), fun _ h1_ => absurd ((hon 7 (by kernel_rfl)).symm.trans h1_) (by decide), z_HO178, Q_HA_HO178, fun _ h1_ => absurd ((up_self b 11).symm.trans h1_) (by decide), fun _ _ => (by repeat (first | (with_reducible first | exact HI0.out | apply IsS115.alloc | apply IsS115.drewN | apply IsS115.drew | apply IsS115.set_1 | refine IsS115.far ?_ NB0_173.out _) | exact HI0.out)), fun h0_ => absurd ((hoff 13 (by kernel_rfl)).symm.trans h0_) (by decide), z_BK193, Q_GW193, Q_GE193, Q_NB0_193, Q_NB193_0, Q_NB173_193, Q_NB193_173, fun h0_ => absurd ((hoff 18 (by kernel_rfl)).symm.trans h0_) (by decide), Q_X8_, Q_X17_⟩
        refine steps_cons ?_ ?_
        · rintro b a w' ⟨v177, adz_v177, gb193, m8_, m17_, ha, Q_BK173, Q_HI0, Q_HK, Q_HB, Q_HI0_e1, Q_HO178, Q_HA_HO178, Q_HI0_e7, Q_HI0_e11, Q_HI0_e13, Q_BK193, Q_GW193, Q_GE193, Q_NB0_193, Q_NB193_0, Q_NB173_193, Q_NB193_173, Q_BK193_e18, Q_X8_, Q_X17_⟩ hb_ hon hoff
          refine ⟨_, rfl, fun K hK => ?_⟩
          have e18 : a.tmps[18]? = some (.pointer (some ⟨g, 0, none⟩)) := by rw [ha]; exact (putSel_off rfl).trans rfl
          replace ha := Aside0.mk ha
          have BK173 := Aside0.mk Q_BK173
          have HK := Aside0.mk Q_HK
          have HB := Aside0.mk Q_HB
          have HI0 := Aside0.mk (Q_HI0_e11 (hon 11 (by kernel_rfl)) hb_)
          refine goes_ Try.func74 (by kernel_rfl) rfl #[.pointer (some ⟨g, 0, none⟩), .int .i64 19] (by rfl) rfl rfl (by first | (simp only [List.map_toArray, List.map_cons, List.map_nil, Act.eval, Array.getD_eq_getD_getElem?, Option.getD_some, e18]; done) | (simp only [List.map_toArray, List.map_cons, List.map_nil, Act.eval, Array.getD_eq_getD_getElem?, Option.getD_some, e18]; rfl)) ?_
          with_reducible refine (spec_l20Rd_pick.calls k g s0_0 t186 19 t187 t188 w0 _ ?side1 ?side2 A8.out).mono ?_
          (case side1 => repeat (first | (with_reducible first | exact HI0.out | apply IsS115.alloc | apply IsS115.drewN | apply IsS115.drew | apply IsS115.set_1 | refine IsS115.far ?_ NB0_173.out _) | exact HI0.out))
          (case side2 => repeat (first | (with_reducible first | exact HB.out | apply below_alloc | apply pw_below_drewN | apply below_drew1 | refine below_set ?_ (IsS115.ge HI0.out) | refine below_set ?_ GE173.out) | exact HB.out))
          rintro e w18 ⟨rfl, hi, hb, hk⟩
          refine ⟨_, rfl, ?_⟩
          have n0_ := Aside0.mk (KeepBut.blk hk (g' := gb173) (o := .cells #[.int .i64 0, .int .i64 0, .int .i64 0, .int .i64 0, .int .i64 0, .int .i64 0, .int .i64 0, .int .i64 0, .int .i64 0] 85 (0, 0)) (by (with_reducible repeat (first | refine blk_drewN ?_ _ | refine blk_drew ?_ | refine blk_alloc ?_ _)); exact BK173.out) NB173_0.out (by simp))
          have n1_ := Aside0.mk (KeepBut.trans (by repeat (first | (with_reducible first | exact HK.out | apply KeepBut.set_ | apply keep_drewN | apply keep_drew | apply keep_alloc | refine keep_far ?_ GW173.out _) | exact HK.out)) hk (.inl rfl))
          have n2_ := Aside0.mk (hb)
          have n3_ := Aside0.mk (hi)
          have z_HO178 := fun (h0_ : b 5 = true) => (show Kd.R k34 34 w18 w.heap.size (fun _ => True) v177 y176 from by first | exact (Kd.R_mono (Kd.R_keep (IsS115.apart (show IsS115 w0 _ g s0_0 t186 from by repeat (first | (with_reducible first | exact HI0.out | apply IsS115.alloc | apply IsS115.drewN | apply IsS115.drew | apply IsS115.set_1 | refine IsS115.far ?_ NB0_173.out _) | exact HI0.out)) (by (with_reducible repeat (first | apply Kd.R_alloc | apply Kd.R_drewN | apply Kd.R_drew)); exact (Q_HO178 h0_)) (by decide)) hk (fun _ h => h.2)) (fun _ h => h.1)) | exact Kd.R_mono (Kd.R_mono (Kd.R_keep (IsS115.apart (show IsS115 w0 _ g s0_0 t186 from by repeat (first | (with_reducible first | exact HI0.out | apply IsS115.alloc | apply IsS115.drewN | apply IsS115.drew | apply IsS115.set_1 | refine IsS115.far ?_ NB0_173.out _) | exact HI0.out)) (by (with_reducible repeat (first | apply Kd.R_alloc | apply Kd.R_drewN | apply Kd.R_drew)); exact (Q_HO178 h0_)) (by decide)) hk (fun _ h => h.2)) (fun _ h => h.1)) (fun _ h_ => by first | trivial | exact h_ | exact h_.1))
          have z_BK193 := fun (h0_ : b 17 = true) (h1_ : b 18 = false) => (show w18.heap[gb193]? = some (.cells #[.int .i64 0, .int .i64 0, .int .i64 0, .int .i64 0, .int .i64 0, .int .i64 0, .int .i64 0, .int .i64 0, .int .i64 0] 85 (0, 0)) from by first | exact (KeepBut.blk hk (g' := gb193) (o := .cells #[.int .i64 0, .int .i64 0, .int .i64 0, .int .i64 0, .int .i64 0, .int .i64 0, .int .i64 0, .int .i64 0, .int .i64 0] 85 (0, 0)) (by (with_reducible repeat (first | refine blk_drewN ?_ _ | refine blk_drew ?_ | refine blk_alloc ?_ _)); exact (Q_BK193 h0_ h1_)) (Q_NB193_0 h0_) (by simp)))
          clear BK173
          clear HK
          clear HB
          clear HI0
          have BK173 := n0_
          have HK := n1_
          have HB := n2_
          have HI0 := n3_
          clear n0_ n1_ n2_ n3_
          (try clear hb)
          (try clear hb2)
          (try clear hk)
          (try clear hi)
          refine hK.out _ _ ⟨v177, adz_v177, gb193, m8_, m17_, (by rw [ha.out]; exact putSel_upk 9 hb_ rfl rfl rfl), (by (with_reducible repeat (first | refine blk_drewN ?_ _ | refine blk_drew ?_ | refine blk_alloc ?_ _)); exact BK173.out), fun h0_ => absurd ((hon 1 (by kernel_rfl)).symm.trans h0_) (by decide), (by repeat (first | (with_reducible first | exact HK.out | apply KeepBut.set_ | apply keep_drewN | apply keep_drew | apply keep_alloc | refine keep_far ?_ GW173.out _) | exact HK.out)), (by repeat (first | (with_reducible first | exact HB.out | apply below_alloc | apply pw_below_drewN | apply below_drew1 | refine below_set ?_ (IsS115.ge HI0.out) | refine below_set ?_ GE173.out) | exact HB.out)), fun _ h1_ => absurd ((hon 7 (by kernel_rfl)).symm.trans h1_) (by decide), z_HO178, Q_HA_HO178, fun _ h1_ => absurd ((hon 11 (by kernel_rfl)).symm.trans h1_) (by decide), fun _ h1_ => absurd ((up_self b 13).symm.trans h1_) (by decide), fun _ => (by repeat (first | (with_reducible first | exact HI0.out | apply IsS115.alloc | apply IsS115.drewN | apply IsS115.drew | apply IsS115.set_1 | refine IsS115.far ?_ NB0_173.out _) | exact HI0.out)), z_BK193, Q_GW193, Q_GE193, Q_NB0_193, Q_NB193_0, Q_NB173_193, Q_NB193_173, fun h0_ => absurd ((hoff 18 (by kernel_rfl)).symm.trans h0_) (by decide), Q_X8_, Q_X17_⟩
        refine steps_cons ?_ ?_
        · rintro b a w' ⟨v177, adz_v177, gb193, m8_, m17_, ha, Q_BK173, Q_HI0, Q_HK, Q_HB, Q_HI0_e1, Q_HO178, Q_HA_HO178, Q_HI0_e7, Q_HI0_e11, Q_HI0_e13, Q_BK193, Q_GW193, Q_GE193, Q_NB0_193, Q_NB193_0, Q_NB173_193, Q_NB193_173, Q_BK193_e18, Q_X8_, Q_X17_⟩ hb_ hon hoff
          refine ⟨_, rfl, fun K hK => ?_⟩
          have e19 : a.tmps[19]? = some (.int .i64 t187) := by rw [ha]; exact putSel_on (e := (13, 19, .int .i64 t187)) 9 rfl rfl (hon 13 (by kernel_rfl)) rfl
          replace ha := Aside0.mk ha
          have BK173 := Aside0.mk Q_BK173
          have HK := Aside0.mk Q_HK
          have HB := Aside0.mk Q_HB
          have HI0 := Aside0.mk (Q_HI0_e13 (hon 13 (by kernel_rfl)))
          refine value_ (w1 := w') (v := .int .i64 (wrap64 (t187 - 9))) (by rfl) rfl ?_ ?_
          · go_simp
            (try simp only [i64_w])
            try rfl
          refine hK.out _ _ ⟨v177, adz_v177, gb193, m8_, m17_, (by rw [ha.out]; exact putSel_upk 10 hb_ rfl rfl rfl), Q_BK173, fun h0_ => absurd ((hon 1 (by kernel_rfl)).symm.trans h0_) (by decide), Q_HK, Q_HB, fun _ h1_ => absurd ((hon 7 (by kernel_rfl)).symm.trans h1_) (by decide), Q_HO178, Q_HA_HO178, fun _ h1_ => absurd ((hon 11 (by kernel_rfl)).symm.trans h1_) (by decide), fun _ h1_ => absurd ((hon 13 (by kernel_rfl)).symm.trans h1_) (by decide), Q_HI0_e13, Q_BK193, Q_GW193, Q_GE193, Q_NB0_193, Q_NB193_0, Q_NB173_193, Q_NB193_173, fun h0_ => absurd ((hoff 18 (by kernel_rfl)).symm.trans h0_) (by decide), Q_X8_, Q_X17_⟩
        refine steps_cons ?_ ?_
        · rintro b a w' ⟨v177, adz_v177, gb193, m8_, m17_, ha, Q_BK173, Q_HI0, Q_HK, Q_HB, Q_HI0_e1, Q_HO178, Q_HA_HO178, Q_HI0_e7, Q_HI0_e11, Q_HI0_e13, Q_BK193, Q_GW193, Q_GE193, Q_NB0_193, Q_NB193_0, Q_NB173_193, Q_NB193_173, Q_BK193_e18, Q_X8_, Q_X17_⟩ hb_ hon hoff
          refine ⟨_, rfl, fun K hK => ?_⟩
          have e17 : a.tmps[17]? = some (.agg #[.int .i64 t182, .int .i64 t183, .int .i64 t184, .int .i64 t185]) := by rw [ha]; exact putSel_on (e := (11, 17, .agg #[.int .i64 t182, .int .i64 t183, .int .i64 t184, .int .i64 t185])) 8 rfl rfl (hon 11 (by kernel_rfl)) rfl
          have e20 : a.tmps[20]? = some (.int .i64 (wrap64 (t187 - 9))) := by rw [ha]; exact putSel_on (e := (14, 20, .int .i64 (wrap64 (t187 - 9)))) 10 rfl rfl (hon 14 (by kernel_rfl)) rfl
          replace ha := Aside0.mk ha
          have BK173 := Aside0.mk Q_BK173
          have HK := Aside0.mk Q_HK
          have HB := Aside0.mk Q_HB
          have HI0 := Aside0.mk (Q_HI0_e13 (hon 13 (by kernel_rfl)))
          refine goes_ Try.func94 (by kernel_rfl) rfl #[.agg #[.int .i64 t182, .int .i64 t183, .int .i64 t184, .int .i64 t185], .int .i64 (wrap64 (t187 - 9))] (by rfl) rfl rfl (by first | (simp only [List.map_toArray, List.map_cons, List.map_nil, Act.eval, Array.getD_eq_getD_getElem?, Option.getD_some, e17, e20]; done) | (simp only [List.map_toArray, List.map_cons, List.map_nil, Act.eval, Array.getD_eq_getD_getElem?, Option.getD_some, e17, e20]; rfl)) ?_
          with_reducible refine (spec_AggAdd.calls t182 t183 t184 t185 (wrap64 (t187 - 9)) t189 t190 t191 t192 _ A9.out).mono ?_
          rintro e w19 ⟨rfl, hb⟩
          refine ⟨_, rfl, ?_⟩
          have n0_ := Aside0.mk (IsS115.below (by repeat (first | (with_reducible first | exact HI0.out | apply IsS115.alloc | apply IsS115.drewN | apply IsS115.drew | apply IsS115.set_1 | refine IsS115.far ?_ NB0_173.out _) | exact HI0.out)) hb)
          have n1_ := Aside0.mk (blk_below (g := gb173) (o := .cells #[.int .i64 0, .int .i64 0, .int .i64 0, .int .i64 0, .int .i64 0, .int .i64 0, .int .i64 0, .int .i64 0, .int .i64 0] 85 (0, 0)) (by (with_reducible repeat (first | refine blk_drewN ?_ _ | refine blk_drew ?_ | refine blk_alloc ?_ _)); exact BK173.out) hb)
          have n2_ := Aside0.mk (KeepBut.trans (by repeat (first | (with_reducible first | exact HK.out | apply KeepBut.set_ | apply keep_drewN | apply keep_drew | apply keep_alloc | refine keep_far ?_ GW173.out _) | exact HK.out)) (KeepBut.of_below hb g none) (.inl rfl))
          have n3_ := Aside0.mk (below_step (by repeat (first | (with_reducible first | exact HB.out | apply below_alloc | apply pw_below_drewN | apply below_drew1 | refine below_set ?_ (IsS115.ge HI0.out) | refine below_set ?_ GE173.out) | exact HB.out)) hb)
          have z_HO178 := fun (h0_ : b 5 = true) => (show Kd.R k34 34 w19 w.heap.size (fun _ => True) v177 y176 from by first | exact (Kd.R_below (by (with_reducible repeat (first | apply Kd.R_alloc | apply Kd.R_drewN | apply Kd.R_drew)); exact (Q_HO178 h0_)) hb) | exact Kd.R_mono (Kd.R_below (by (with_reducible repeat (first | apply Kd.R_alloc | apply Kd.R_drewN | apply Kd.R_drew)); exact (Q_HO178 h0_)) hb) (fun _ h_ => by first | trivial | exact h_ | exact h_.1))
          have z_BK193 := fun (h0_ : b 17 = true) (h1_ : b 18 = false) => (show w19.heap[gb193]? = some (.cells #[.int .i64 0, .int .i64 0, .int .i64 0, .int .i64 0, .int .i64 0, .int .i64 0, .int .i64 0, .int .i64 0, .int .i64 0] 85 (0, 0)) from by first | exact (blk_below (g := gb193) (o := .cells #[.int .i64 0, .int .i64 0, .int .i64 0, .int .i64 0, .int .i64 0, .int .i64 0, .int .i64 0, .int .i64 0, .int .i64 0] 85 (0, 0)) (by (with_reducible repeat (first | refine blk_drewN ?_ _ | refine blk_drew ?_ | refine blk_alloc ?_ _)); exact (Q_BK193 h0_ h1_)) hb))
          clear HI0
          clear BK173
          clear HK
          clear HB
          have HI0 := n0_
          have BK173 := n1_
          have HK := n2_
          have HB := n3_
          clear n0_ n1_ n2_ n3_
          (try clear hb)
          (try clear hb2)
          (try clear hk)
          (try clear hi)
          refine hK.out _ _ ⟨v177, adz_v177, gb193, m8_, m17_, (by rw [ha.out]; exact putSel_upk 11 hb_ rfl rfl rfl), (by (with_reducible repeat (first | refine blk_drewN ?_ _ | refine blk_drew ?_ | refine blk_alloc ?_ _)); exact BK173.out), fun h0_ => absurd ((hon 1 (by kernel_rfl)).symm.trans h0_) (by decide), (by repeat (first | (with_reducible first | exact HK.out | apply KeepBut.set_ | apply keep_drewN | apply keep_drew | apply keep_alloc | refine keep_far ?_ GW173.out _) | exact HK.out)), (by repeat (first | (with_reducible first | exact HB.out | apply below_alloc | apply pw_below_drewN | apply below_drew1 | refine below_set ?_ (IsS115.ge HI0.out) | refine below_set ?_ GE173.out) | exact HB.out)), fun _ h1_ => absurd ((hon 7 (by kernel_rfl)).symm.trans h1_) (by decide), z_HO178, Q_HA_HO178, fun _ h1_ => absurd ((hon 11 (by kernel_rfl)).symm.trans h1_) (by decide), fun _ h1_ => absurd ((hon 13 (by kernel_rfl)).symm.trans h1_) (by decide), fun _ => (by repeat (first | (with_reducible first | exact HI0.out | apply IsS115.alloc | apply IsS115.drewN | apply IsS115.drew | apply IsS115.set_1 | refine IsS115.far ?_ NB0_173.out _) | exact HI0.out)), z_BK193, Q_GW193, Q_GE193, Q_NB0_193, Q_NB193_0, Q_NB173_193, Q_NB193_173, fun h0_ => absurd ((hoff 18 (by kernel_rfl)).symm.trans h0_) (by decide), Q_X8_, Q_X17_⟩
        refine steps_cons ?_ ?_
        · rintro b a w' ⟨v177, adz_v177, gb193, m8_, m17_, ha, Q_BK173, Q_HI0, Q_HK, Q_HB, Q_HI0_e1, Q_HO178, Q_HA_HO178, Q_HI0_e7, Q_HI0_e11, Q_HI0_e13, Q_BK193, Q_GW193, Q_GE193, Q_NB0_193, Q_NB193_0, Q_NB173_193, Q_NB193_173, Q_BK193_e18, Q_X8_, Q_X17_⟩ hb_ hon hoff
          refine ⟨_, rfl, fun K hK => ?_⟩
          have e7 : a.tmps[7]? = some (.int .i64 t174) := by rw [ha]; exact putSel_on (e := (1, 7, .int .i64 t174)) 0 rfl rfl (hon 1 (by kernel_rfl)) rfl
          have e15 : a.tmps[15]? = some (.agg #[.int .i64 ((rd_T34 y176 t179).f0), .int .i64 ((rd_T34 y176 t179).f1)]) := by rw [ha]; exact putSel_on (e := (9, 15, .agg #[.int .i64 ((rd_T34 y176 t179).f0), .int .i64 ((rd_T34 y176 t179).f1)])) 7 rfl rfl (hon 9 (by kernel_rfl)) rfl
          have e21 : a.tmps[21]? = some (.agg #[.int .i64 t189, .int .i64 t190, .int .i64 t191, .int .i64 t192]) := by rw [ha]; exact putSel_on (e := (15, 21, .agg #[.int .i64 t189, .int .i64 t190, .int .i64 t191, .int .i64 t192])) 11 rfl rfl (hon 15 (by kernel_rfl)) rfl
          replace ha := Aside0.mk ha
          have BK173 := Aside0.mk Q_BK173
          have HK := Aside0.mk Q_HK
          have HB := Aside0.mk Q_HB
          have HO178 := Aside0.mk (Q_HO178 (hon 5 (by kernel_rfl)))
          have HA_HO178 := Aside0.mk (Q_HA_HO178 (hon 5 (by kernel_rfl)))
          have HI0 := Aside0.mk (Q_HI0_e13 (hon 13 (by kernel_rfl)))
          refine value_ (w1 := w') (v := .agg #[.int .i64 t174, .int .i64 ((rd_T34 y176 t179).f0), .int .i64 ((rd_T34 y176 t179).f1), .int .i64 0, .int .i64 1, .int .i64 t189, .int .i64 t190, .int .i64 t191, .int .i64 t192]) (by rfl) rfl ?_ ?_
          · go_simp
            (try simp only [i64_w])
            try rfl
          refine hK.out _ _ ⟨v177, adz_v177, gb193, m8_, m17_, (by rw [ha.out]; exact putSel_upk 12 hb_ rfl rfl rfl), Q_BK173, fun h0_ => absurd ((hon 1 (by kernel_rfl)).symm.trans h0_) (by decide), Q_HK, Q_HB, fun _ h1_ => absurd ((hon 7 (by kernel_rfl)).symm.trans h1_) (by decide), Q_HO178, Q_HA_HO178, fun _ h1_ => absurd ((hon 11 (by kernel_rfl)).symm.trans h1_) (by decide), fun _ h1_ => absurd ((hon 13 (by kernel_rfl)).symm.trans h1_) (by decide), Q_HI0_e13, Q_BK193, Q_GW193, Q_GE193, Q_NB0_193, Q_NB193_0, Q_NB173_193, Q_NB193_173, fun h0_ => absurd ((hoff 18 (by kernel_rfl)).symm.trans h0_) (by decide), Q_X8_, Q_X17_⟩
        refine steps_cons ?_ ?_
        · rintro b a w' ⟨v177, adz_v177, gb193, m8_, m17_, ha, Q_BK173, Q_HI0, Q_HK, Q_HB, Q_HI0_e1, Q_HO178, Q_HA_HO178, Q_HI0_e7, Q_HI0_e11, Q_HI0_e13, Q_BK193, Q_GW193, Q_GE193, Q_NB0_193, Q_NB193_0, Q_NB173_193, Q_NB193_173, Q_BK193_e18, Q_X8_, Q_X17_⟩ hb_ hon hoff
          refine ⟨_, rfl, fun K hK => ?_⟩
          replace ha := Aside0.mk ha
          have BK173 := Aside0.mk Q_BK173
          have HK := Aside0.mk Q_HK
          have HB := Aside0.mk Q_HB
          refine box_step ?hg (N := 5) ?hd (cs := #[.int .i64 0, .int .i64 0, .int .i64 0, .int .i64 0, .int .i64 0, .int .i64 0, .int .i64 0, .int .i64 0, .int .i64 0]) (t := 85) ?hr ?_; (case hd => rfl); (case hg => rfl); (case hr => first | (go_simp; done) | (go_simp; rfl))
          intro gb193 hg w14 hbox hb
          have n1_ := Aside0.mk (blk_below (g := gb173) (o := .cells #[.int .i64 0, .int .i64 0, .int .i64 0, .int .i64 0, .int .i64 0, .int .i64 0, .int .i64 0, .int .i64 0, .int .i64 0] 85 (0, 0)) (by (with_reducible repeat (first | refine blk_drewN ?_ _ | refine blk_drew ?_ | refine blk_alloc ?_ _)); exact BK173.out) hb)
          have n2_ := Aside0.mk (KeepBut.trans (by repeat (first | (with_reducible first | exact HK.out | apply KeepBut.set_ | apply keep_drewN | apply keep_drew | apply keep_alloc | refine keep_far ?_ GW173.out _) | exact HK.out)) (KeepBut.of_below hb g none) (.inl rfl))
          have n3_ := Aside0.mk (below_step (by repeat (first | (with_reducible first | exact HB.out | apply below_alloc | apply pw_below_drewN | apply below_drew1 | refine below_set ?_ GE173.out) | exact HB.out)) hb)
          have n4_ := Aside0.mk (hbox)
          have n5_ := Aside0.mk ((by rw [hg]; exact (keep_size (w := w) (g := g) (row := none) (by repeat (first | (with_reducible first | exact HK.out | apply KeepBut.set_ | apply keep_drewN | apply keep_drew | apply keep_alloc | refine keep_far ?_ GW173.out _) | exact HK.out))) : w.heap.size ≤ gb193))
          have n6_ := Aside0.mk ((Nat.le_trans HW0.out (by rw [hg]; exact (keep_size (w := w) (g := g) (row := none) (by repeat (first | (with_reducible first | exact HK.out | apply KeepBut.set_ | apply keep_drewN | apply keep_drew | apply keep_alloc | refine keep_far ?_ GW173.out _) | exact HK.out))) : w.heap.size ≤ gb193) : w0.heap.size ≤ gb193))
          have n7_ := Aside0.mk ((by rw [hg]; exact Nat.ne_of_lt (blk_lt (g := gb173) (o := .cells #[.int .i64 0, .int .i64 0, .int .i64 0, .int .i64 0, .int .i64 0, .int .i64 0, .int .i64 0, .int .i64 0, .int .i64 0] 85 (0, 0)) (by (with_reducible repeat (first | refine blk_drewN ?_ _ | refine blk_drew ?_ | refine blk_alloc ?_ _)); exact BK173.out)) : gb173 ≠ gb193))
          have n8_ := Aside0.mk ((by rw [hg]; exact Nat.ne_of_gt (blk_lt (g := gb173) (o := .cells #[.int .i64 0, .int .i64 0, .int .i64 0, .int .i64 0, .int .i64 0, .int .i64 0, .int .i64 0, .int .i64 0, .int .i64 0] 85 (0, 0)) (by (with_reducible repeat (first | refine blk_drewN ?_ _ | refine blk_drew ?_ | refine blk_alloc ?_ _)); exact BK173.out)) : gb193 ≠ gb173))
          have n9_ := Aside0.mk ((by rw [hg]; exact Nat.ne_of_lt (Nat.lt_of_lt_of_le HG0.out (keep_size (w := w) (g := g) (row := none) (by repeat (first | (with_reducible first | exact HK.out | apply KeepBut.set_ | apply keep_drewN | apply keep_drew | apply keep_alloc | refine keep_far ?_ GW173.out _) | exact HK.out)))) : g ≠ gb193))
          have n10_ := Aside0.mk ((by rw [hg]; exact Nat.ne_of_gt (Nat.lt_of_lt_of_le HG0.out (keep_size (w := w) (g := g) (row := none) (by repeat (first | (with_reducible first | exact HK.out | apply KeepBut.set_ | apply keep_drewN | apply keep_drew | apply keep_alloc | refine keep_far ?_ GW173.out _) | exact HK.out)))) : gb193 ≠ g))
          have z_HI0 := fun (h0_ : b 1 = false) => (show IsS115 w0 w14 g s0_0 s0_1 from by first | exact (IsS115.below (by repeat (first | (with_reducible first | exact (Q_HI0 h0_) | apply IsS115.alloc | apply IsS115.drewN | apply IsS115.drew | apply IsS115.set_1 | refine IsS115.far ?_ NB0_173.out _) | exact (Q_HI0 h0_))) hb))
          have z_HI0_e1 := fun (h0_ : b 1 = true) (h1_ : b 7 = false) => (show IsS115 w0 w14 g s0_0 t175 from by first | exact (IsS115.below (by repeat (first | (with_reducible first | exact (Q_HI0_e1 h0_ h1_) | apply IsS115.alloc | apply IsS115.drewN | apply IsS115.drew | apply IsS115.set_1 | refine IsS115.far ?_ NB0_173.out _) | exact (Q_HI0_e1 h0_ h1_))) hb))
          have z_HO178 := fun (h0_ : b 5 = true) => (show Kd.R k34 34 w14 w.heap.size (fun _ => True) v177 y176 from by first | exact (Kd.R_below (by (with_reducible repeat (first | apply Kd.R_alloc | apply Kd.R_drewN | apply Kd.R_drew)); exact (Q_HO178 h0_)) hb) | exact Kd.R_mono (Kd.R_below (by (with_reducible repeat (first | apply Kd.R_alloc | apply Kd.R_drewN | apply Kd.R_drew)); exact (Q_HO178 h0_)) hb) (fun _ h_ => by first | trivial | exact h_ | exact h_.1))
          have z_HI0_e7 := fun (h0_ : b 7 = true) (h1_ : b 11 = false) => (show IsS115 w0 w14 g s0_0 t180 from by first | exact (IsS115.below (by repeat (first | (with_reducible first | exact (Q_HI0_e7 h0_ h1_) | apply IsS115.alloc | apply IsS115.drewN | apply IsS115.drew | apply IsS115.set_1 | refine IsS115.far ?_ NB0_173.out _) | exact (Q_HI0_e7 h0_ h1_))) hb))
          have z_HI0_e11 := fun (h0_ : b 11 = true) (h1_ : b 13 = false) => (show IsS115 w0 w14 g s0_0 t186 from by first | exact (IsS115.below (by repeat (first | (with_reducible first | exact (Q_HI0_e11 h0_ h1_) | apply IsS115.alloc | apply IsS115.drewN | apply IsS115.drew | apply IsS115.set_1 | refine IsS115.far ?_ NB0_173.out _) | exact (Q_HI0_e11 h0_ h1_))) hb))
          have z_HI0_e13 := fun (h0_ : b 13 = true) => (show IsS115 w0 w14 g s0_0 t188 from by first | exact (IsS115.below (by repeat (first | (with_reducible first | exact (Q_HI0_e13 h0_) | apply IsS115.alloc | apply IsS115.drewN | apply IsS115.drew | apply IsS115.set_1 | refine IsS115.far ?_ NB0_173.out _) | exact (Q_HI0_e13 h0_))) hb))
          clear BK173
          clear HK
          clear HB
          have BK173 := n1_
          have HK := n2_
          have HB := n3_
          have BK193 := n4_
          have GW193 := n5_
          have GE193 := n6_
          have NB173_193 := n7_
          have NB193_173 := n8_
          have NB0_193 := n9_
          have NB193_0 := n10_
          clear n1_ n2_ n3_ n4_ n5_ n6_ n7_ n8_ n9_ n10_
          clear hb hbox hg
          refine hK.out _ _ ⟨v177, adz_v177, gb193, m8_, (.pointer (some ⟨gb193, 0, none⟩)), (by rw [ha.out]; exact putSel_upk 13 hb_ rfl rfl rfl), (by (with_reducible repeat (first | refine blk_drewN ?_ _ | refine blk_drew ?_ | refine blk_alloc ?_ _)); exact BK173.out), z_HI0, (by repeat (first | (with_reducible first | exact HK.out | apply KeepBut.set_ | apply keep_drewN | apply keep_drew | apply keep_alloc | refine keep_far ?_ GW173.out _ | refine keep_far ?_ GW193.out _) | exact HK.out)), (by repeat (first | (with_reducible first | exact HB.out | apply below_alloc | apply pw_below_drewN | apply below_drew1 | refine below_set ?_ GE173.out | refine below_set ?_ GE193.out) | exact HB.out)), z_HI0_e1, z_HO178, Q_HA_HO178, z_HI0_e7, z_HI0_e11, z_HI0_e13, fun _ _ => (by (with_reducible repeat (first | refine blk_drewN ?_ _ | refine blk_drew ?_ | refine blk_alloc ?_ _)); exact BK193.out), fun _ => GW193.out, fun _ => GE193.out, fun _ => NB0_193.out, fun _ => NB193_0.out, fun _ => NB173_193.out, fun _ => NB193_173.out, fun h0_ => absurd ((hoff 18 (by kernel_rfl)).symm.trans h0_) (by decide), Q_X8_, fun _ => rfl⟩
        refine steps_cons ?_ ?_
        · rintro b a w' ⟨v177, adz_v177, gb193, m8_, m17_, ha, Q_BK173, Q_HI0, Q_HK, Q_HB, Q_HI0_e1, Q_HO178, Q_HA_HO178, Q_HI0_e7, Q_HI0_e11, Q_HI0_e13, Q_BK193, Q_GW193, Q_GE193, Q_NB0_193, Q_NB193_0, Q_NB173_193, Q_NB193_173, Q_BK193_e18, Q_X8_, Q_X17_⟩ hb_ hon hoff
          refine ⟨_, rfl, fun K hK => ?_⟩
          have e5 : a.tmps[5]? = some (m17_) := by rw [ha]; exact putSel_on (e := (17, 5, m17_)) 13 rfl rfl (hon 17 (by kernel_rfl)) rfl
          rw [Q_X17_ (hon 17 (by kernel_rfl))] at e5
          have e22 : a.tmps[22]? = some (.agg #[.int .i64 t174, .int .i64 ((rd_T34 y176 t179).f0), .int .i64 ((rd_T34 y176 t179).f1), .int .i64 0, .int .i64 1, .int .i64 t189, .int .i64 t190, .int .i64 t191, .int .i64 t192]) := by rw [ha]; exact putSel_on (e := (16, 22, .agg #[.int .i64 t174, .int .i64 ((rd_T34 y176 t179).f0), .int .i64 ((rd_T34 y176 t179).f1), .int .i64 0, .int .i64 1, .int .i64 t189, .int .i64 t190, .int .i64 t191, .int .i64 t192])) 12 rfl rfl (hon 16 (by kernel_rfl)) rfl
          replace ha := Aside0.mk ha
          have BK173 := Aside0.mk Q_BK173
          have HK := Aside0.mk Q_HK
          have HB := Aside0.mk Q_HB
          have HO178 := Aside0.mk (Q_HO178 (hon 5 (by kernel_rfl)))
          have HA_HO178 := Aside0.mk (Q_HA_HO178 (hon 5 (by kernel_rfl)))
          have HI0 := Aside0.mk (Q_HI0_e13 (hon 13 (by kernel_rfl)))
          have BK193 := Aside0.mk (Q_BK193 (hon 17 (by kernel_rfl)) hb_)
          have GW193 := Aside0.mk (Q_GW193 (hon 17 (by kernel_rfl)))
          have GE193 := Aside0.mk (Q_GE193 (hon 17 (by kernel_rfl)))
          have NB0_193 := Aside0.mk (Q_NB0_193 (hon 17 (by kernel_rfl)))
          have NB193_0 := Aside0.mk (Q_NB193_0 (hon 17 (by kernel_rfl)))
          have NB173_193 := Aside0.mk (Q_NB173_193 (hon 17 (by kernel_rfl)))
          have NB193_173 := Aside0.mk (Q_NB193_173 (hon 17 (by kernel_rfl)))
          obtain ⟨co24, eo24⟩ := HA_HO178.out
          clear HA_HO178
          subst eo24
          have hs25 : w'.cell? ⟨gb193, 0, none⟩ = some (.int .i64 0) := (blk_cell BK193.out 0).trans rfl
          have hfs25 := blk_frozen BK193.out 0
          have hns25_0 := NB173_193.out
          have hms25_0 := NB193_173.out
          have hs26 : w'.cell? ⟨gb193, 1, none⟩ = some (.int .i64 0) := (blk_cell BK193.out 1).trans rfl
          have hfs26 := blk_frozen BK193.out 1
          have hns26_0 := NB173_193.out
          have hms26_0 := NB193_173.out
          have hs27 : w'.cell? ⟨gb193, 2, none⟩ = some (.int .i64 0) := (blk_cell BK193.out 2).trans rfl
          have hfs27 := blk_frozen BK193.out 2
          have hns27_0 := NB173_193.out
          have hms27_0 := NB193_173.out
          have hs28 : w'.cell? ⟨gb193, 3, none⟩ = some (.int .i64 0) := (blk_cell BK193.out 3).trans rfl
          have hfs28 := blk_frozen BK193.out 3
          have hns28_0 := NB173_193.out
          have hms28_0 := NB193_173.out
          have hs29 : w'.cell? ⟨gb193, 4, none⟩ = some (.int .i64 0) := (blk_cell BK193.out 4).trans rfl
          have hfs29 := blk_frozen BK193.out 4
          have hns29_0 := NB173_193.out
          have hms29_0 := NB193_173.out
          have hs30 : w'.cell? ⟨gb193, 5, none⟩ = some (.int .i64 0) := (blk_cell BK193.out 5).trans rfl
          have hfs30 := blk_frozen BK193.out 5
          have hns30_0 := NB173_193.out
          have hms30_0 := NB193_173.out
          have hs31 : w'.cell? ⟨gb193, 6, none⟩ = some (.int .i64 0) := (blk_cell BK193.out 6).trans rfl
          have hfs31 := blk_frozen BK193.out 6
          have hns31_0 := NB173_193.out
          have hms31_0 := NB193_173.out
          have hs32 : w'.cell? ⟨gb193, 7, none⟩ = some (.int .i64 0) := (blk_cell BK193.out 7).trans rfl
          have hfs32 := blk_frozen BK193.out 7
          have hns32_0 := NB173_193.out
          have hms32_0 := NB193_173.out
          have hs33 : w'.cell? ⟨gb193, 8, none⟩ = some (.int .i64 0) := (blk_cell BK193.out 8).trans rfl
          have hfs33 := blk_frozen BK193.out 8
          have hns33_0 := NB173_193.out
          have hms33_0 := NB193_173.out
          refine skip_ (w1 := ?_) (by rfl) rfl ?_ ?_
          rotate_left
          · go_simp
            rfl
          refine hK.out _ _ ⟨.slice (some adz_v177) y176.length co24, adz_v177, gb193, m8_, m17_, (by rw [ha.out]; exact putSel_none (v := undef) rfl), (by (with_reducible repeat (first | refine blk_drewN ?_ _ | refine blk_drew ?_ | refine blk_alloc ?_ _)); refine blk_far ?_ NB173_193.out _; (with_reducible repeat (first | refine blk_drewN ?_ _ | refine blk_drew ?_ | refine blk_alloc ?_ _)); refine blk_far ?_ NB173_193.out _; (with_reducible repeat (first | refine blk_drewN ?_ _ | refine blk_drew ?_ | refine blk_alloc ?_ _)); refine blk_far ?_ NB173_193.out _; (with_reducible repeat (first | refine blk_drewN ?_ _ | refine blk_drew ?_ | refine blk_alloc ?_ _)); refine blk_far ?_ NB173_193.out _; (with_reducible repeat (first | refine blk_drewN ?_ _ | refine blk_drew ?_ | refine blk_alloc ?_ _)); refine blk_far ?_ NB173_193.out _; (with_reducible repeat (first | refine blk_drewN ?_ _ | refine blk_drew ?_ | refine blk_alloc ?_ _)); refine blk_far ?_ NB173_193.out _; (with_reducible repeat (first | refine blk_drewN ?_ _ | refine blk_drew ?_ | refine blk_alloc ?_ _)); refine blk_far ?_ NB173_193.out _; (with_reducible repeat (first | refine blk_drewN ?_ _ | refine blk_drew ?_ | refine blk_alloc ?_ _)); refine blk_far ?_ NB173_193.out _; (with_reducible repeat (first | refine blk_drewN ?_ _ | refine blk_drew ?_ | refine blk_alloc ?_ _)); refine blk_far ?_ NB173_193.out _; (with_reducible repeat (first | refine blk_drewN ?_ _ | refine blk_drew ?_ | refine blk_alloc ?_ _)); exact BK173.out), fun h0_ => absurd ((hon 1 (by kernel_rfl)).symm.trans h0_) (by decide), (by repeat (first | (with_reducible first | exact HK.out | apply KeepBut.set_ | apply keep_drewN | apply keep_drew | apply keep_alloc | refine keep_far ?_ GW173.out _ | refine keep_far ?_ GW193.out _) | exact HK.out)), (by repeat (first | (with_reducible first | exact HB.out | apply below_alloc | apply pw_below_drewN | apply below_drew1 | refine below_set ?_ (IsS115.ge HI0.out) | refine below_set ?_ GE173.out | refine below_set ?_ GE193.out) | exact HB.out)), fun _ h1_ => absurd ((hon 7 (by kernel_rfl)).symm.trans h1_) (by decide), fun _ => (by (with_reducible repeat (first | apply Kd.R_alloc | apply Kd.R_drewN | apply Kd.R_drew)); exact Kd.R_mono (Kd.R_far (p := ⟨gb193, 8, none⟩) (Kd.R_far (p := ⟨gb193, 7, none⟩) (Kd.R_far (p := ⟨gb193, 6, none⟩) (Kd.R_far (p := ⟨gb193, 5, none⟩) (Kd.R_far (p := ⟨gb193, 4, none⟩) (Kd.R_far (p := ⟨gb193, 3, none⟩) (Kd.R_far (p := ⟨gb193, 2, none⟩) (Kd.R_far (p := ⟨gb193, 1, none⟩) (Kd.R_far (p := ⟨gb193, 0, none⟩) (Kd.R_types HO178.out BK193.out (by decide)) (fun _ hk => hk.2) (.int .i64 t174)) (fun _ hk => hk.2) (.int .i64 ((rd_T34 y176 t179).f0))) (fun _ hk => hk.2) (.int .i64 ((rd_T34 y176 t179).f1))) (fun _ hk => hk.2) (.int .i64 0)) (fun _ hk => hk.2) (.int .i64 1)) (fun _ hk => hk.2) (.int .i64 t189)) (fun _ hk => hk.2) (.int .i64 t190)) (fun _ hk => hk.2) (.int .i64 t191)) (fun _ hk => hk.2) (.int .i64 t192)) (fun _ hk => trivial)), fun _ => ⟨_, rfl⟩, fun _ h1_ => absurd ((hon 11 (by kernel_rfl)).symm.trans h1_) (by decide), fun _ h1_ => absurd ((hon 13 (by kernel_rfl)).symm.trans h1_) (by decide), fun _ => (by repeat (first | (with_reducible first | exact HI0.out | apply IsS115.alloc | apply IsS115.drewN | apply IsS115.drew | apply IsS115.set_1 | refine IsS115.far ?_ NB0_173.out _ | refine IsS115.far ?_ NB0_193.out _) | exact HI0.out)), fun _ h1_ => absurd ((up_self b 18).symm.trans h1_) (by decide), fun _ => GW193.out, fun _ => GE193.out, fun _ => NB0_193.out, fun _ => NB193_0.out, fun _ => NB173_193.out, fun _ => NB193_173.out, fun _ => (by (with_reducible repeat (first | refine blk_drewN ?_ _ | refine blk_drew ?_ | refine blk_alloc ?_ _)); refine blk_put (cs := #[.int .i64 t174, .int .i64 ((rd_T34 y176 t179).f0), .int .i64 ((rd_T34 y176 t179).f1), .int .i64 0, .int .i64 1, .int .i64 t189, .int .i64 t190, .int .i64 t191, .int .i64 0]) ?_ 8 _ rfl; (with_reducible repeat (first | refine blk_drewN ?_ _ | refine blk_drew ?_ | refine blk_alloc ?_ _)); refine blk_put (cs := #[.int .i64 t174, .int .i64 ((rd_T34 y176 t179).f0), .int .i64 ((rd_T34 y176 t179).f1), .int .i64 0, .int .i64 1, .int .i64 t189, .int .i64 t190, .int .i64 0, .int .i64 0]) ?_ 7 _ rfl; (with_reducible repeat (first | refine blk_drewN ?_ _ | refine blk_drew ?_ | refine blk_alloc ?_ _)); refine blk_put (cs := #[.int .i64 t174, .int .i64 ((rd_T34 y176 t179).f0), .int .i64 ((rd_T34 y176 t179).f1), .int .i64 0, .int .i64 1, .int .i64 t189, .int .i64 0, .int .i64 0, .int .i64 0]) ?_ 6 _ rfl; (with_reducible repeat (first | refine blk_drewN ?_ _ | refine blk_drew ?_ | refine blk_alloc ?_ _)); refine blk_put (cs := #[.int .i64 t174, .int .i64 ((rd_T34 y176 t179).f0), .int .i64 ((rd_T34 y176 t179).f1), .int .i64 0, .int .i64 1, .int .i64 0, .int .i64 0, .int .i64 0, .int .i64 0]) ?_ 5 _ rfl; (with_reducible repeat (first | refine blk_drewN ?_ _ | refine blk_drew ?_ | refine blk_alloc ?_ _)); refine blk_put (cs := #[.int .i64 t174, .int .i64 ((rd_T34 y176 t179).f0), .int .i64 ((rd_T34 y176 t179).f1), .int .i64 0, .int .i64 0, .int .i64 0, .int .i64 0, .int .i64 0, .int .i64 0]) ?_ 4 _ rfl; (with_reducible repeat (first | refine blk_drewN ?_ _ | refine blk_drew ?_ | refine blk_alloc ?_ _)); refine blk_put (cs := #[.int .i64 t174, .int .i64 ((rd_T34 y176 t179).f0), .int .i64 ((rd_T34 y176 t179).f1), .int .i64 0, .int .i64 0, .int .i64 0, .int .i64 0, .int .i64 0, .int .i64 0]) ?_ 3 _ rfl; (with_reducible repeat (first | refine blk_drewN ?_ _ | refine blk_drew ?_ | refine blk_alloc ?_ _)); refine blk_put (cs := #[.int .i64 t174, .int .i64 ((rd_T34 y176 t179).f0), .int .i64 0, .int .i64 0, .int .i64 0, .int .i64 0, .int .i64 0, .int .i64 0, .int .i64 0]) ?_ 2 _ rfl; (with_reducible repeat (first | refine blk_drewN ?_ _ | refine blk_drew ?_ | refine blk_alloc ?_ _)); refine blk_put (cs := #[.int .i64 t174, .int .i64 0, .int .i64 0, .int .i64 0, .int .i64 0, .int .i64 0, .int .i64 0, .int .i64 0, .int .i64 0]) ?_ 1 _ rfl; (with_reducible repeat (first | refine blk_drewN ?_ _ | refine blk_drew ?_ | refine blk_alloc ?_ _)); refine blk_put (cs := #[.int .i64 0, .int .i64 0, .int .i64 0, .int .i64 0, .int .i64 0, .int .i64 0, .int .i64 0, .int .i64 0, .int .i64 0]) ?_ 0 _ rfl; (with_reducible repeat (first | refine blk_drewN ?_ _ | refine blk_drew ?_ | refine blk_alloc ?_ _)); exact BK193.out), Q_X8_, Q_X17_⟩
        exact steps_nil
      rintro b a w32 hall ⟨v177, adz_v177, gb193, m8_, m17_, ha, Q_BK173, Q_HI0, Q_HK, Q_HB, Q_HI0_e1, Q_HO178, Q_HA_HO178, Q_HI0_e7, Q_HI0_e11, Q_HI0_e13, Q_BK193, Q_GW193, Q_GE193, Q_NB0_193, Q_NB193_0, Q_NB173_193, Q_NB193_173, Q_BK193_e18, Q_X8_, Q_X17_⟩
      clear BK173 HB HI0 HK
      have hb1_ := hall 1 (by kernel_rfl)
      have hb2_ := hall 2 (by kernel_rfl)
      have hb3_ := hall 3 (by kernel_rfl)
      have hb4_ := hall 4 (by kernel_rfl)
      have hb5_ := hall 5 (by kernel_rfl)
      have hb7_ := hall 7 (by kernel_rfl)
      have hb8_ := hall 8 (by kernel_rfl)
      have hb9_ := hall 9 (by kernel_rfl)
      have hb11_ := hall 11 (by kernel_rfl)
      have hb13_ := hall 13 (by kernel_rfl)
      have hb14_ := hall 14 (by kernel_rfl)
      have hb15_ := hall 15 (by kernel_rfl)
      have hb16_ := hall 16 (by kernel_rfl)
      have hb17_ := hall 17 (by kernel_rfl)
      have hb18_ := hall 18 (by kernel_rfl)
      subst ha
      obtain rfl := Q_X8_ hb8_
      obtain rfl := Q_X17_ hb17_
      simp only [putSel, hb1_, hb2_, hb3_, hb4_, hb5_, hb7_, hb8_, hb9_, hb11_, hb13_, hb14_, hb15_, hb16_, hb17_, hb18_, if_true, Act.put, List.setIfInBounds_toArray, List.set_cons_zero, List.set_cons_succ]
      have BK173 := Aside0.mk Q_BK173
      clear Q_BK173
      clear Q_HI0
      have HK := Aside0.mk Q_HK
      clear Q_HK
      have HB := Aside0.mk Q_HB
      clear Q_HB
      clear Q_HI0_e1
      have HO178 := Aside0.mk (Q_HO178 hb5_)
      clear Q_HO178
      have HA_HO178 := Aside0.mk (Q_HA_HO178 hb5_)
      clear Q_HA_HO178
      clear Q_HI0_e7
      clear Q_HI0_e11
      have HI0 := Aside0.mk (Q_HI0_e13 hb13_)
      clear Q_HI0_e13
      clear Q_BK193
      have GW193 := Aside0.mk (Q_GW193 hb17_)
      clear Q_GW193
      have GE193 := Aside0.mk (Q_GE193 hb17_)
      clear Q_GE193
      have NB0_193 := Aside0.mk (Q_NB0_193 hb17_)
      clear Q_NB0_193
      have NB193_0 := Aside0.mk (Q_NB193_0 hb17_)
      clear Q_NB193_0
      have NB173_193 := Aside0.mk (Q_NB173_193 hb17_)
      clear Q_NB173_193
      have NB193_173 := Aside0.mk (Q_NB193_173 hb17_)
      clear Q_NB193_173
      have BK193 := Aside0.mk (Q_BK193_e18 hb18_)
      clear Q_BK193_e18
      clear hall hb1_ hb2_ hb3_ hb4_ hb5_ hb7_ hb8_ hb9_ hb11_ hb13_ hb14_ hb15_ hb16_ hb17_ hb18_
      obtain ⟨co33, eo33⟩ := HA_HO178.out
      clear HA_HO178
      subst eo33
      go_upto_if 25 with (first | ((with_reducible refine gate_callee (f := 74) rfl ?_); refine goesL_ (some 24) rfl rfl Try.func74 (by kernel_rfl) rfl #[.pointer (some ⟨g, 0, none⟩), .int .i64 2] rfl (by (try simp only [List.map_toArray, List.map_cons, List.map_nil]); first | done | rfl | (simp only [List.length_drop, List.length_take]; rfl)) ?_; (with_reducible refine (spec_l20Rd_pick.calls k g s0_0 t188 2 t194 t195 w0 _ ?side1 ?side2 A10.out).mono ?_); (case side1 => repeat (first | (with_reducible first | exact HI0.out | apply IsS115.alloc | apply IsS115.drewN | apply IsS115.drew | apply IsS115.set_1 | refine IsS115.far ?_ NB0_173.out _ | refine IsS115.far ?_ NB0_193.out _) | exact HI0.out)); (case side2 => repeat (first | (with_reducible first | exact HB.out | apply below_alloc | apply pw_below_drewN | apply below_drew1 | refine below_set ?_ (IsS115.ge HI0.out) | refine below_set ?_ GE173.out | refine below_set ?_ GE193.out) | exact HB.out)); rintro e w34 ⟨rfl, hi, hb, hk⟩; refine ⟨_, rfl, ?_⟩; have n0_ := Aside0.mk (KeepBut.blk hk (g' := gb173) (o := .cells #[.int .i64 0, .int .i64 0, .int .i64 0, .int .i64 0, .int .i64 0, .int .i64 0, .int .i64 0, .int .i64 0, .int .i64 0] 85 (0, 0)) (by (with_reducible repeat (first | refine blk_drewN ?_ _ | refine blk_drew ?_ | refine blk_alloc ?_ _)); exact BK173.out) NB173_0.out (by simp)); have n1_ := Aside0.mk (Kd.R_mono (Kd.R_keep (IsS115.apart (show IsS115 w0 _ g s0_0 t188 from by repeat (first | (with_reducible first | exact HI0.out | apply IsS115.alloc | apply IsS115.drewN | apply IsS115.drew | apply IsS115.set_1 | refine IsS115.far ?_ NB0_173.out _ | refine IsS115.far ?_ NB0_193.out _) | exact HI0.out)) (by (with_reducible repeat (first | apply Kd.R_alloc | apply Kd.R_drewN | apply Kd.R_drew)); exact HO178.out) (by decide)) hk (fun _ h => h.2)) (fun _ h => h.1)); have n2_ := Aside0.mk (KeepBut.blk hk (g' := gb193) (o := .cells #[.int .i64 t174, .int .i64 ((rd_T34 y176 t179).f0), .int .i64 ((rd_T34 y176 t179).f1), .int .i64 0, .int .i64 1, .int .i64 t189, .int .i64 t190, .int .i64 t191, .int .i64 t192] 85 (0, 0)) (by (with_reducible repeat (first | refine blk_drewN ?_ _ | refine blk_drew ?_ | refine blk_alloc ?_ _)); exact BK193.out) NB193_0.out (by simp)); have n3_ := Aside0.mk (KeepBut.trans (by repeat (first | (with_reducible first | exact HK.out | apply KeepBut.set_ | apply keep_drewN | apply keep_drew | apply keep_alloc | refine keep_far ?_ GW173.out _ | refine keep_far ?_ GW193.out _) | exact HK.out)) hk (.inl rfl)); have n4_ := Aside0.mk (hb); have n5_ := Aside0.mk (hi); clear BK173; clear HO178; clear BK193; clear HK; clear HB; clear HI0; have BK173 := n0_; have HO178 := n1_; have BK193 := n2_; have HK := n3_; have HB := n4_; have HI0 := n5_; clear n0_ n1_ n2_ n3_ n4_ n5_; (try clear hb); (try clear hb2); (try clear hk); (try clear hi)))
      (try simp only [Act.put, List.setIfInBounds_toArray, List.set_cons_zero, List.set_cons_succ])
      go_cut [] (fun wc => ∃ (kq : Nat) (x1001_10 : Int) (x194003_10 : Int) (x194004_10 : Int), Aside0 (spec_l20Pane.j0 kq a1 s0_0 x1001_10 t174 ((rd_T34 y176 t179).f0) ((rd_T34 y176 t179).f1) x194003_10 x194004_10 t189 t190 t191 t192 = some (r1, r2, r3, r4, r5, r6, r7, r8, r9, r10)) ∧ Aside0 (kq ≤ k) ∧ Aside0 (wc.heap[gb173]? = some (.cells #[.int .i64 0, .int .i64 0, .int .i64 0, .int .i64 0, .int .i64 0, .int .i64 0, .int .i64 0, .int .i64 0, .int .i64 0] 85 (0, 0))) ∧ Aside0 (wc.heap[gb193]? = some (.cells #[.int .i64 t174, .int .i64 ((rd_T34 y176 t179).f0), .int .i64 ((rd_T34 y176 t179).f1), .int .i64 x194003_10, .int .i64 x194004_10, .int .i64 t189, .int .i64 t190, .int .i64 t191, .int .i64 t192] 85 (0, 0))) ∧ Aside0 (IsS115 w0 wc g s0_0 x1001_10) ∧ Aside0 (KeepBut w wc g none) ∧ Aside0 (Below w0.heap.size w0 wc))
      case first =>
        have H := HC11.out
        clear HC11
        by_cases c35 : t194 = 0
        · rw [if_pos c35] at H
          have c35b0 : (t194 == 0) = true := beq_iff_eq.mpr c35
          have c35b1 : (t194 != 0) = false := bne_eq_false_iff_eq.mpr c35
          clear c35
          (first | rw [c35b0] | (simp only [i64_w, i32_w]; rw [c35b0]) | skip)
          replace H := Option.bind_eq_some_iff.mp H
          obtain ⟨⟨t196, t197⟩, A360, H⟩ := H
          replace H : (spec_l20Pane.j0 k a1 s0_0 t197 t174 ((rd_T34 y176 t179).f0) ((rd_T34 y176 t179).f1) (wrap64 (1 + t196)) 2 t189 t190 t191 t192) = some (r1, r2, r3, r4, r5, r6, r7, r8, r9, r10) := H
          have A36 := Aside0.mk A360
          clear A360
          have H' := Aside0.mk H
          clear H
          have hnb37 := NB193_173.out
          have hnc37 := NB173_193.out
          have hnb38 := NB193_0.out
          have hnc38 := NB0_193.out
          have hcz39_0 : w34.cell? ⟨gb193, 0, none⟩ = some (.int .i64 t174) := (blk_cell BK193.out 0).trans rfl
          have hcz39_1 : w34.cell? ⟨gb193, 1, none⟩ = some (.int .i64 ((rd_T34 y176 t179).f0)) := (blk_cell BK193.out 1).trans rfl
          have hcz39_2 : w34.cell? ⟨gb193, 2, none⟩ = some (.int .i64 ((rd_T34 y176 t179).f1)) := (blk_cell BK193.out 2).trans rfl
          have hcz39_3 : w34.cell? ⟨gb193, 3, none⟩ = some (.int .i64 0) := (blk_cell BK193.out 3).trans rfl
          have hcz39_4 : w34.cell? ⟨gb193, 4, none⟩ = some (.int .i64 1) := (blk_cell BK193.out 4).trans rfl
          have hcz39_5 : w34.cell? ⟨gb193, 5, none⟩ = some (.int .i64 t189) := (blk_cell BK193.out 5).trans rfl
          have hcz39_6 : w34.cell? ⟨gb193, 6, none⟩ = some (.int .i64 t190) := (blk_cell BK193.out 6).trans rfl
          have hcz39_7 : w34.cell? ⟨gb193, 7, none⟩ = some (.int .i64 t191) := (blk_cell BK193.out 7).trans rfl
          have hcz39_8 : w34.cell? ⟨gb193, 8, none⟩ = some (.int .i64 t192) := (blk_cell BK193.out 8).trans rfl
          have hfz39_0 := blk_frozen BK193.out 0
          have hfz39_1 := blk_frozen BK193.out 1
          have hfz39_2 := blk_frozen BK193.out 2
          have hfz39_3 := blk_frozen BK193.out 3
          have hfz39_4 := blk_frozen BK193.out 4
          have hfz39_5 := blk_frozen BK193.out 5
          have hfz39_6 := blk_frozen BK193.out 6
          have hfz39_7 := blk_frozen BK193.out 7
          have hfz39_8 := blk_frozen BK193.out 8
          go_wp2_with (first | ((with_reducible refine gate_callee (f := 74) rfl ?_); refine goesL_ (some 28) rfl rfl Try.func74 (by kernel_rfl) rfl #[.pointer (some ⟨g, 0, none⟩), .int .i64 3] rfl (by (try simp only [List.map_toArray, List.map_cons, List.map_nil]); first | done | rfl | (simp only [List.length_drop, List.length_take]; rfl)) ?_; (with_reducible refine (spec_l20Rd_pick.calls k g s0_0 t195 3 t196 t197 w0 _ ?side1 ?side2 A36.out).mono ?_); (case side1 => repeat (first | (with_reducible first | exact HI0.out | apply IsS115.alloc | apply IsS115.drewN | apply IsS115.drew | apply IsS115.set_1 | refine IsS115.far ?_ NB0_173.out _ | refine IsS115.far ?_ NB0_193.out _) | exact HI0.out)); (case side2 => repeat (first | (with_reducible first | exact HB.out | apply below_alloc | apply pw_below_drewN | apply below_drew1 | refine below_set ?_ (IsS115.ge HI0.out) | refine below_set ?_ GE173.out | refine below_set ?_ GE193.out) | exact HB.out)); rintro e w40 ⟨rfl, hi, hb, hk⟩; refine ⟨_, rfl, ?_⟩; have n0_ := Aside0.mk (KeepBut.blk hk (g' := gb173) (o := .cells #[.int .i64 0, .int .i64 0, .int .i64 0, .int .i64 0, .int .i64 0, .int .i64 0, .int .i64 0, .int .i64 0, .int .i64 0] 85 (0, 0)) (by (with_reducible repeat (first | refine blk_drewN ?_ _ | refine blk_drew ?_ | refine blk_alloc ?_ _)); refine blk_far ?_ NB173_193.out _; (with_reducible repeat (first | refine blk_drewN ?_ _ | refine blk_drew ?_ | refine blk_alloc ?_ _)); exact BK173.out) NB173_0.out (by simp)); have n1_ := Aside0.mk (Kd.R_mono (Kd.R_keep (IsS115.apart (show IsS115 w0 _ g s0_0 t195 from by repeat (first | (with_reducible first | exact HI0.out | apply IsS115.alloc | apply IsS115.drewN | apply IsS115.drew | apply IsS115.set_1 | refine IsS115.far ?_ NB0_173.out _ | refine IsS115.far ?_ NB0_193.out _) | exact HI0.out)) (by (with_reducible repeat (first | apply Kd.R_alloc | apply Kd.R_drewN | apply Kd.R_drew)); exact (Kd.R_mono (Kd.R_far (p := ⟨gb193, 4, none⟩) (Kd.R_types HO178.out BK193.out (by decide)) (fun _ hk => hk.2) (.int .i64 2)) (fun _ h_ => h_.1))) (by decide)) hk (fun _ h => h.2)) (fun _ h => h.1)); have n2_ := Aside0.mk (KeepBut.blk hk (g' := gb193) (o := .cells #[.int .i64 t174, .int .i64 ((rd_T34 y176 t179).f0), .int .i64 ((rd_T34 y176 t179).f1), .int .i64 0, .int .i64 2, .int .i64 t189, .int .i64 t190, .int .i64 t191, .int .i64 t192] 85 (0, 0)) (by (with_reducible repeat (first | refine blk_drewN ?_ _ | refine blk_drew ?_ | refine blk_alloc ?_ _)); refine blk_put (cs := #[.int .i64 t174, .int .i64 ((rd_T34 y176 t179).f0), .int .i64 ((rd_T34 y176 t179).f1), .int .i64 0, .int .i64 1, .int .i64 t189, .int .i64 t190, .int .i64 t191, .int .i64 t192]) ?_ 4 _ rfl; (with_reducible repeat (first | refine blk_drewN ?_ _ | refine blk_drew ?_ | refine blk_alloc ?_ _)); exact BK193.out) NB193_0.out (by simp)); have n3_ := Aside0.mk (KeepBut.trans (by repeat (first | (with_reducible first | exact HK.out | apply KeepBut.set_ | apply keep_drewN | apply keep_drew | apply keep_alloc | refine keep_far ?_ GW173.out _ | refine keep_far ?_ GW193.out _) | exact HK.out)) hk (.inl rfl)); have n4_ := Aside0.mk (hb); have n5_ := Aside0.mk (hi); clear BK173; clear HO178; clear BK193; clear HK; clear HB; clear HI0; have BK173 := n0_; have HO178 := n1_; have BK193 := n2_; have HK := n3_; have HB := n4_; have HI0 := n5_; clear n0_ n1_ n2_ n3_ n4_ n5_; (try clear hb); (try clear hb2); (try clear hk); (try clear hi); have hcz41_0 : w40.cell? ⟨gb193, 0, none⟩ = some (.int .i64 t174) := (blk_cell BK193.out 0).trans rfl; have hcz41_1 : w40.cell? ⟨gb193, 1, none⟩ = some (.int .i64 ((rd_T34 y176 t179).f0)) := (blk_cell BK193.out 1).trans rfl; have hcz41_2 : w40.cell? ⟨gb193, 2, none⟩ = some (.int .i64 ((rd_T34 y176 t179).f1)) := (blk_cell BK193.out 2).trans rfl; have hcz41_3 : w40.cell? ⟨gb193, 3, none⟩ = some (.int .i64 0) := (blk_cell BK193.out 3).trans rfl; have hcz41_4 : w40.cell? ⟨gb193, 4, none⟩ = some (.int .i64 2) := (blk_cell BK193.out 4).trans rfl; have hcz41_5 : w40.cell? ⟨gb193, 5, none⟩ = some (.int .i64 t189) := (blk_cell BK193.out 5).trans rfl; have hcz41_6 : w40.cell? ⟨gb193, 6, none⟩ = some (.int .i64 t190) := (blk_cell BK193.out 6).trans rfl; have hcz41_7 : w40.cell? ⟨gb193, 7, none⟩ = some (.int .i64 t191) := (blk_cell BK193.out 7).trans rfl; have hcz41_8 : w40.cell? ⟨gb193, 8, none⟩ = some (.int .i64 t192) := (blk_cell BK193.out 8).trans rfl; have hfz41_0 := blk_frozen BK193.out 0; have hfz41_1 := blk_frozen BK193.out 1; have hfz41_2 := blk_frozen BK193.out 2; have hfz41_3 := blk_frozen BK193.out 3; have hfz41_4 := blk_frozen BK193.out 4; have hfz41_5 := blk_frozen BK193.out 5; have hfz41_6 := blk_frozen BK193.out 6; have hfz41_7 := blk_frozen BK193.out 7; have hfz41_8 := blk_frozen BK193.out 8))
          go_meet
          case rel => exact ⟨_, (t197), (wrap64 (1 + t196)), (2), H', ⟨by first | omega | exact Nat.le_refl _⟩, ⟨by (with_reducible repeat (first | refine blk_drewN ?_ _ | refine blk_drew ?_ | refine blk_alloc ?_ _)); refine blk_far ?_ NB173_193.out _; (with_reducible repeat (first | refine blk_drewN ?_ _ | refine blk_drew ?_ | refine blk_alloc ?_ _)); exact BK173.out⟩, ⟨by (with_reducible repeat (first | refine blk_drewN ?_ _ | refine blk_drew ?_ | refine blk_alloc ?_ _)); refine blk_put (cs := #[.int .i64 t174, .int .i64 ((rd_T34 y176 t179).f0), .int .i64 ((rd_T34 y176 t179).f1), .int .i64 0, .int .i64 2, .int .i64 t189, .int .i64 t190, .int .i64 t191, .int .i64 t192]) ?_ 3 _ rfl; (with_reducible repeat (first | refine blk_drewN ?_ _ | refine blk_drew ?_ | refine blk_alloc ?_ _)); exact BK193.out⟩, ⟨by repeat (first | (with_reducible first | exact HI0.out | apply IsS115.alloc | apply IsS115.drewN | apply IsS115.drew | apply IsS115.set_1 | refine IsS115.far ?_ NB0_173.out _ | refine IsS115.far ?_ NB0_193.out _) | exact HI0.out)⟩, ⟨by repeat (first | (with_reducible first | exact HK.out | apply KeepBut.set_ | apply keep_drewN | apply keep_drew | apply keep_alloc | refine keep_far ?_ GW173.out _ | refine keep_far ?_ GW193.out _) | exact HK.out)⟩, ⟨by repeat (first | (with_reducible first | exact HB.out | apply below_alloc | apply pw_below_drewN | apply below_drew1 | refine below_set ?_ (IsS115.ge HI0.out) | refine below_set ?_ GE173.out | refine below_set ?_ GE193.out) | exact HB.out)⟩⟩
        · rw [if_neg c35] at H
          have c35b0 : (t194 == 0) = false := beq_eq_false_iff_ne.mpr c35
          have c35b1 : (t194 != 0) = true := bne_iff_ne.mpr c35
          (first | rw [c35b0] | (simp only [i64_w, i32_w]; rw [c35b0]) | skip)
          have H' := Aside0.mk H
          clear H
          go_wp2
          go_meet
          case rel => exact ⟨_, (t195), (0), (1), H', ⟨by first | omega | exact Nat.le_refl _⟩, ⟨by (with_reducible repeat (first | refine blk_drewN ?_ _ | refine blk_drew ?_ | refine blk_alloc ?_ _)); exact BK173.out⟩, ⟨by (with_reducible repeat (first | refine blk_drewN ?_ _ | refine blk_drew ?_ | refine blk_alloc ?_ _)); exact BK193.out⟩, ⟨by repeat (first | (with_reducible first | exact HI0.out | apply IsS115.alloc | apply IsS115.drewN | apply IsS115.drew | apply IsS115.set_1 | refine IsS115.far ?_ NB0_173.out _ | refine IsS115.far ?_ NB0_193.out _) | exact HI0.out)⟩, ⟨by repeat (first | (with_reducible first | exact HK.out | apply KeepBut.set_ | apply keep_drewN | apply keep_drew | apply keep_alloc | refine keep_far ?_ GW173.out _ | refine keep_far ?_ GW193.out _) | exact HK.out)⟩, ⟨by repeat (first | (with_reducible first | exact HB.out | apply below_alloc | apply pw_below_drewN | apply below_drew1 | refine below_set ?_ (IsS115.ge HI0.out) | refine below_set ?_ GE173.out | refine below_set ?_ GE193.out) | exact HB.out)⟩⟩
      case rest =>
        clear HC11
        try clear hx1
        try clear qi1
        try clear c2
        try clear p2
        try clear c3
        try clear p6
        try clear c7
        try clear c9
        try clear qi18
        try clear c35
        try clear c35b0
        try clear c35b1
        try clear c37
        try clear c38
        try clear hcz39_0
        try clear hcz39_1
        try clear hcz39_2
        try clear hcz39_3
        try clear hcz39_4
        try clear hcz39_5
        try clear hcz39_6
        try clear hcz39_7
        try clear hcz39_8
        try clear hcz41_0
        try clear hcz41_1
        try clear hcz41_2
        try clear hcz41_3
        try clear hcz41_4
        try clear hcz41_5
        try clear hcz41_6
        try clear hcz41_7
        try clear hcz41_8
        try clear hfz39_0
        try clear hfz39_1
        try clear hfz39_2
        try clear hfz39_3
        try clear hfz39_4
        try clear hfz39_5
        try clear hfz39_6
        try clear hfz39_7
        try clear hfz39_8
        try clear hfz41_0
        try clear hfz41_1
        try clear hfz41_2
        try clear hfz41_3
        try clear hfz41_4
        try clear hfz41_5
        try clear hfz41_6
        try clear hfz41_7
        try clear hfz41_8
        obtain ⟨kq, x1001_10, x194003_10, x194004_10, HA, HJ10, BK173, BK193, HI0, HK, HB⟩ := hcut
        cases kq with
        | zero => exact absurd HA.out (by simp [spec_l20Pane.j0])
        | succ kj10 =>
          have H := HA.out
          clear HA
          simp only [spec_l20Pane.j0] at H
          replace H := Option.bind_eq_some_iff.mp H
          obtain ⟨⟨t198, t199⟩, A420, H⟩ := H
          replace H : (if t198 = 0 then ((spec_l20Rd_pick.f kj10 s0_0 t199 3).bind fun bt200 => (spec_l20Pane.j1 kj10 a1 s0_0 bt200.2 t174 ((rd_T34 y176 t179).f0) ((rd_T34 y176 t179).f1) (wrap64 (1 + bt200.1)) 3 0 0 0 0)) else (spec_l20Pane.j1 kj10 a1 s0_0 t199 t174 ((rd_T34 y176 t179).f0) ((rd_T34 y176 t179).f1) x194003_10 x194004_10 t189 t190 t191 t192)) = some (r1, r2, r3, r4, r5, r6, r7, r8, r9, r10) := H
          have A42 := Aside0.mk A420
          clear A420
          have HC43 := Aside0.mk H
          clear H
          go_upto_if 33 with (first | ((with_reducible refine gate_callee (f := 74) rfl ?_); refine goesL_ (some 32) rfl rfl Try.func74 (by kernel_rfl) rfl #[.pointer (some ⟨g, 0, none⟩), .int .i64 5] rfl (by (try simp only [List.map_toArray, List.map_cons, List.map_nil]); first | done | rfl | (simp only [List.length_drop, List.length_take]; rfl)) ?_; (with_reducible refine (spec_l20Rd_pick.calls kj10 g s0_0 x1001_10 5 t198 t199 w0 _ ?side1 ?side2 A42.out).mono ?_); (case side1 => repeat (first | (with_reducible first | exact HI0.out | apply IsS115.alloc | apply IsS115.drewN | apply IsS115.drew | apply IsS115.set_1 | refine IsS115.far ?_ NB0_173.out _ | refine IsS115.far ?_ NB0_193.out _) | exact HI0.out)); (case side2 => repeat (first | (with_reducible first | exact HB.out | apply below_alloc | apply pw_below_drewN | apply below_drew1 | refine below_set ?_ (IsS115.ge HI0.out) | refine below_set ?_ GE173.out | refine below_set ?_ GE193.out) | exact HB.out)); rintro e w44 ⟨rfl, hi, hb, hk⟩; refine ⟨_, rfl, ?_⟩; have n0_ := Aside0.mk (KeepBut.blk hk (g' := gb173) (o := .cells #[.int .i64 0, .int .i64 0, .int .i64 0, .int .i64 0, .int .i64 0, .int .i64 0, .int .i64 0, .int .i64 0, .int .i64 0] 85 (0, 0)) (by (with_reducible repeat (first | refine blk_drewN ?_ _ | refine blk_drew ?_ | refine blk_alloc ?_ _)); exact BK173.out) NB173_0.out (by simp)); have n1_ := Aside0.mk (KeepBut.blk hk (g' := gb193) (o := .cells #[.int .i64 t174, .int .i64 ((rd_T34 y176 t179).f0), .int .i64 ((rd_T34 y176 t179).f1), .int .i64 x194003_10, .int .i64 x194004_10, .int .i64 t189, .int .i64 t190, .int .i64 t191, .int .i64 t192] 85 (0, 0)) (by (with_reducible repeat (first | refine blk_drewN ?_ _ | refine blk_drew ?_ | refine blk_alloc ?_ _)); exact BK193.out) NB193_0.out (by simp)); have n2_ := Aside0.mk (KeepBut.trans (by repeat (first | (with_reducible first | exact HK.out | apply KeepBut.set_ | apply keep_drewN | apply keep_drew | apply keep_alloc | refine keep_far ?_ GW173.out _ | refine keep_far ?_ GW193.out _) | exact HK.out)) hk (.inl rfl)); have n3_ := Aside0.mk (hb); have n4_ := Aside0.mk (hi); clear BK173; clear BK193; clear HK; clear HB; clear HI0; have BK173 := n0_; have BK193 := n1_; have HK := n2_; have HB := n3_; have HI0 := n4_; clear n0_ n1_ n2_ n3_ n4_; (try clear hb); (try clear hb2); (try clear hk); (try clear hi)))
          (try simp only [Act.put, List.setIfInBounds_toArray, List.set_cons_zero, List.set_cons_succ])
          go_cut [] (fun wc => ∃ (kq : Nat) (x1001_42 : Int) (x194000_42 : Int) (x194001_42 : Int) (x194002_42 : Int) (x194003_42 : Int) (x194004_42 : Int) (x194005_42 : Int) (x194006_42 : Int) (x194007_42 : Int) (x194008_42 : Int), Aside0 (spec_l20Pane.j1 kq a1 s0_0 x1001_42 x194000_42 x194001_42 x194002_42 x194003_42 x194004_42 x194005_42 x194006_42 x194007_42 x194008_42 = some (r1, r2, r3, r4, r5, r6, r7, r8, r9, r10)) ∧ Aside0 (kq ≤ kj10) ∧ Aside0 (wc.heap[gb173]? = some (.cells #[.int .i64 0, .int .i64 0, .int .i64 0, .int .i64 0, .int .i64 0, .int .i64 0, .int .i64 0, .int .i64 0, .int .i64 0] 85 (0, 0))) ∧ Aside0 (wc.heap[gb193]? = some (.cells #[.int .i64 x194000_42, .int .i64 x194001_42, .int .i64 x194002_42, .int .i64 x194003_42, .int .i64 x194004_42, .int .i64 x194005_42, .int .i64 x194006_42, .int .i64 x194007_42, .int .i64 x194008_42] 85 (0, 0))) ∧ Aside0 (IsS115 w0 wc g s0_0 x1001_42) ∧ Aside0 (KeepBut w wc g none) ∧ Aside0 (Below w0.heap.size w0 wc))
          case first =>
            have H := HC43.out
            clear HC43
            by_cases c45 : t198 = 0
            · rw [if_pos c45] at H
              have c45b0 : (t198 == 0) = true := beq_iff_eq.mpr c45
              have c45b1 : (t198 != 0) = false := bne_eq_false_iff_eq.mpr c45
              clear c45
              (first | rw [c45b0] | (simp only [i64_w, i32_w]; rw [c45b0]) | skip)
              replace H := Option.bind_eq_some_iff.mp H
              obtain ⟨⟨t200, t201⟩, A460, H⟩ := H
              replace H : (spec_l20Pane.j1 kj10 a1 s0_0 t201 t174 ((rd_T34 y176 t179).f0) ((rd_T34 y176 t179).f1) (wrap64 (1 + t200)) 3 0 0 0 0) = some (r1, r2, r3, r4, r5, r6, r7, r8, r9, r10) := H
              have A46 := Aside0.mk A460
              clear A460
              have H' := Aside0.mk H
              clear H
              try go_wp2
              have n0_ := Aside0.mk (blk_drew BK173.out)
              have n1_ := Aside0.mk (blk_drew BK193.out)
              have n2_ := Aside0.mk (IsS115.drew HI0.out)
              have n3_ := Aside0.mk (keep_drew HK.out)
              have n4_ := Aside0.mk (below_drew1 HB.out)
              clear BK173
              clear BK193
              clear HI0
              clear HK
              clear HB
              have BK173 := n0_
              have BK193 := n1_
              have HI0 := n2_
              have HK := n3_
              have HB := n4_
              clear n0_ n1_ n2_ n3_ n4_
              refine start_ (n := 9) (S := fun w' => w'.cell? ⟨gb193, 0, none⟩ = some (.int .i64 t174) ∧ w'.cell? ⟨gb193, 1, none⟩ = some (.int .i64 ((rd_T34 y176 t179).f0)) ∧ w'.cell? ⟨gb193, 2, none⟩ = some (.int .i64 ((rd_T34 y176 t179).f1)) ∧ w'.cell? ⟨gb193, 3, none⟩ = some (.int .i64 x194003_10) ∧ w'.cell? ⟨gb193, 4, none⟩ = some (.int .i64 x194004_10) ∧ w'.cell? ⟨gb193, 5, none⟩ = some (.int .i64 t189) ∧ w'.cell? ⟨gb193, 6, none⟩ = some (.int .i64 t190) ∧ w'.cell? ⟨gb193, 7, none⟩ = some (.int .i64 t191) ∧ w'.cell? ⟨gb193, 8, none⟩ = some (.int .i64 t192)) (ds := [8]) #[false, false, false, false, false, false, false, false, false] (by kernel_rfl) rfl rfl ⟨(blk_cell BK193.out 0).trans rfl, (blk_cell BK193.out 1).trans rfl, (blk_cell BK193.out 2).trans rfl, (blk_cell BK193.out 3).trans rfl, (blk_cell BK193.out 4).trans rfl, (blk_cell BK193.out 5).trans rfl, (blk_cell BK193.out 6).trans rfl, (blk_cell BK193.out 7).trans rfl, (blk_cell BK193.out 8).trans rfl⟩ (fun hHeld => ?_); refine with_tabW spec_l20Pane.tab6 spec_l20Pane.bits6 (fun HT_ HW_ => ?_)
              generalize w44.drew = w47 at BK173 BK193 HI0 HK HB hHeld ⊢
              refine pure_ (i := 0) (N := some 34) (v := ?_) (a' := ?_) #[true, false, false, false, false, false, false, false, false] rfl rfl (any_of HT_.out (by kernel_rfl)) (fun _ _ _ h => h) (Or.inl ⟨by rfl, ?_⟩) ?_ ?_
              rotate_left
              · intro w'
                go_simp
                with_reducible rfl
              rotate_left
              · simp only [Act.put, List.setIfInBounds_toArray, List.set_cons_zero, List.set_cons_succ, i64_w, i32_w]
                rfl
              refine pure_ (i := 2) (N := some 36) (v := ?_) (a' := ?_) #[true, false, true, false, false, false, false, false, false] rfl rfl (any_of HT_.out (by kernel_rfl)) (fun _ _ _ h => h) (Or.inl ⟨by rfl, ?_⟩) ?_ ?_
              rotate_left
              · intro w'
                go_simp
                with_reducible rfl
              rotate_left
              · simp only [Act.put, List.setIfInBounds_toArray, List.set_cons_zero, List.set_cons_succ, i64_w, i32_w]
                rfl
              refine pure_ (i := 4) (N := some 38) (v := ?_) (a' := ?_) #[true, false, true, false, true, false, false, false, false] rfl rfl (any_of HT_.out (by kernel_rfl)) (fun _ _ _ h => h) (Or.inl ⟨by rfl, ?_⟩) ?_ ?_
              rotate_left
              · intro w'
                go_simp
                with_reducible rfl
              rotate_left
              · simp only [Act.put, List.setIfInBounds_toArray, List.set_cons_zero, List.set_cons_succ, i64_w, i32_w]
                rfl
              refine take_ (i := 1) (N := some 35) (v := ?_) (a' := ?_) #[true, true, true, false, true, false, false, false, false] rfl rfl (take_ofW HT_.out HW_.out (by kernel_rfl)) (fun _ _ _ h => h) (Or.inl ⟨by rfl, ?_⟩) hHeld ?_ ?_
              rotate_left
              · rintro w' ⟨s0, s1, s2, s3, s4, s5, s6, s7, s8⟩
                go_simp
                with_reducible rfl
              rotate_left
              · simp only [Act.put, List.setIfInBounds_toArray, List.set_cons_zero, List.set_cons_succ, i64_w, i32_w]
                rfl
              refine take_ (i := 3) (N := some 37) (v := ?_) (a' := ?_) #[true, true, true, true, true, false, false, false, false] rfl rfl (take_ofW HT_.out HW_.out (by kernel_rfl)) (fun _ _ _ h => h) (Or.inl ⟨by rfl, ?_⟩) hHeld ?_ ?_
              rotate_left
              · rintro w' ⟨s0, s1, s2, s3, s4, s5, s6, s7, s8⟩
                go_simp
                with_reducible rfl
              rotate_left
              · simp only [Act.put, List.setIfInBounds_toArray, List.set_cons_zero, List.set_cons_succ, i64_w, i32_w]
                rfl
              refine one_ (i := 5) (N := some 39) #[true, true, true, true, true, true, false, false, false] rfl rfl (one_of HT_.out (by kernel_rfl)) (by decide) (fun K hK => ?_)
              refine goes_ Try.func74 (by kernel_rfl) rfl #[.pointer (some ⟨g, 0, none⟩), .int .i64 3] (by rfl) rfl rfl (by (try simp only [List.map_toArray, List.map_cons, List.map_nil]); first | done | rfl | (simp only [List.length_drop, List.length_take]; rfl)) ?_
              with_reducible refine (spec_l20Rd_pick.calls kj10 g s0_0 t199 3 t200 t201 w0 _ ?side1 ?side2 A46.out).mono ?_
              (case side1 => repeat (first | (with_reducible first | exact HI0.out | apply IsS115.alloc | apply IsS115.drewN | apply IsS115.drew | apply IsS115.set_1 | refine IsS115.far ?_ NB0_173.out _ | refine IsS115.far ?_ NB0_193.out _) | exact HI0.out))
              (case side2 => repeat (first | (with_reducible first | exact HB.out | apply below_alloc | apply pw_below_drewN | apply below_drew1 | refine below_set ?_ (IsS115.ge HI0.out) | refine below_set ?_ GE173.out | refine below_set ?_ GE193.out) | exact HB.out))
              rintro e w48 ⟨rfl, hi, hb, hk⟩
              refine ⟨_, rfl, ?_⟩
              have n0_ := Aside0.mk (KeepBut.blk hk (g' := gb173) (o := .cells #[.int .i64 0, .int .i64 0, .int .i64 0, .int .i64 0, .int .i64 0, .int .i64 0, .int .i64 0, .int .i64 0, .int .i64 0] 85 (0, 0)) (by (with_reducible repeat (first | refine blk_drewN ?_ _ | refine blk_drew ?_ | refine blk_alloc ?_ _)); exact BK173.out) NB173_0.out (by simp))
              have n1_ := Aside0.mk (KeepBut.blk hk (g' := gb193) (o := .cells #[.int .i64 t174, .int .i64 ((rd_T34 y176 t179).f0), .int .i64 ((rd_T34 y176 t179).f1), .int .i64 x194003_10, .int .i64 x194004_10, .int .i64 t189, .int .i64 t190, .int .i64 t191, .int .i64 t192] 85 (0, 0)) (by (with_reducible repeat (first | refine blk_drewN ?_ _ | refine blk_drew ?_ | refine blk_alloc ?_ _)); exact BK193.out) NB193_0.out (by simp))
              have n2_ := Aside0.mk (KeepBut.trans (by repeat (first | (with_reducible first | exact HK.out | apply KeepBut.set_ | apply keep_drewN | apply keep_drew | apply keep_alloc | refine keep_far ?_ GW173.out _ | refine keep_far ?_ GW193.out _) | exact HK.out)) hk (.inl rfl))
              have n3_ := Aside0.mk (hb)
              have n4_ := Aside0.mk (hi)
              clear BK173
              clear BK193
              clear HK
              clear HB
              clear HI0
              have BK173 := n0_
              have BK193 := n1_
              have HK := n2_
              have HB := n3_
              have HI0 := n4_
              clear n0_ n1_ n2_ n3_ n4_
              (try clear hb)
              (try clear hb2)
              (try clear hk)
              (try clear hi)
              refine hK.out _ _ ⟨(blk_cell BK193.out 0).trans rfl, (blk_cell BK193.out 1).trans rfl, (blk_cell BK193.out 2).trans rfl, (blk_cell BK193.out 3).trans rfl, (blk_cell BK193.out 4).trans rfl, (blk_cell BK193.out 5).trans rfl, (blk_cell BK193.out 6).trans rfl, (blk_cell BK193.out 7).trans rfl, (blk_cell BK193.out 8).trans rfl⟩ (fun hHeld => ?_)
              clear hK K
              refine norm_ (a' := ?_) ?_ ?_
              rotate_left
              · show Act.put _ (some 39) _ = _
                simp only [Act.put, List.setIfInBounds_toArray, List.set_cons_zero, List.set_cons_succ, i64_w, i32_w]
                rfl
              refine pure_ (i := 6) (N := some 40) (v := ?_) (a' := ?_) #[true, true, true, true, true, true, true, false, false] rfl rfl (any_of HT_.out (by kernel_rfl)) (fun _ _ _ h => h) (Or.inl ⟨by rfl, ?_⟩) ?_ ?_
              rotate_left
              · intro w'
                go_simp
                with_reducible rfl
              rotate_left
              · simp only [Act.put, List.setIfInBounds_toArray, List.set_cons_zero, List.set_cons_succ, i64_w, i32_w]
                rfl
              refine pure_ (i := 7) (N := some 41) (v := ?_) (a' := ?_) #[true, true, true, true, true, true, true, true, false] rfl rfl (any_of HT_.out (by kernel_rfl)) (fun _ _ _ h => h) (Or.inl ⟨by rfl, ?_⟩) ?_ ?_
              rotate_left
              · intro w'
                go_simp
                with_reducible rfl
              rotate_left
              · simp only [Act.put, List.setIfInBounds_toArray, List.set_cons_zero, List.set_cons_succ, i64_w, i32_w]
                rfl
              refine last_ (i := 8) (N := none) #[true, true, true, true, true, true, true, true, true] rfl rfl (one_of HT_.out (by kernel_rfl)) (by decide) (fun K hK => ?_)
              have hs49 : w48.cell? ⟨gb193, 0, none⟩ = some (.int .i64 t174) := (blk_cell BK193.out 0).trans rfl
              have hfs49 := blk_frozen BK193.out 0
              have hns49_0 := NB173_193.out
              have hms49_0 := NB193_173.out
              have hs50 : w48.cell? ⟨gb193, 1, none⟩ = some (.int .i64 ((rd_T34 y176 t179).f0)) := (blk_cell BK193.out 1).trans rfl
              have hfs50 := blk_frozen BK193.out 1
              have hns50_0 := NB173_193.out
              have hms50_0 := NB193_173.out
              have hs51 : w48.cell? ⟨gb193, 2, none⟩ = some (.int .i64 ((rd_T34 y176 t179).f1)) := (blk_cell BK193.out 2).trans rfl
              have hfs51 := blk_frozen BK193.out 2
              have hns51_0 := NB173_193.out
              have hms51_0 := NB193_173.out
              have hs52 : w48.cell? ⟨gb193, 3, none⟩ = some (.int .i64 x194003_10) := (blk_cell BK193.out 3).trans rfl
              have hfs52 := blk_frozen BK193.out 3
              have hns52_0 := NB173_193.out
              have hms52_0 := NB193_173.out
              have hs53 : w48.cell? ⟨gb193, 4, none⟩ = some (.int .i64 x194004_10) := (blk_cell BK193.out 4).trans rfl
              have hfs53 := blk_frozen BK193.out 4
              have hns53_0 := NB173_193.out
              have hms53_0 := NB193_173.out
              have hs54 : w48.cell? ⟨gb193, 5, none⟩ = some (.int .i64 t189) := (blk_cell BK193.out 5).trans rfl
              have hfs54 := blk_frozen BK193.out 5
              have hns54_0 := NB173_193.out
              have hms54_0 := NB193_173.out
              have hs55 : w48.cell? ⟨gb193, 6, none⟩ = some (.int .i64 t190) := (blk_cell BK193.out 6).trans rfl
              have hfs55 := blk_frozen BK193.out 6
              have hns55_0 := NB173_193.out
              have hms55_0 := NB193_173.out
              have hs56 : w48.cell? ⟨gb193, 7, none⟩ = some (.int .i64 t191) := (blk_cell BK193.out 7).trans rfl
              have hfs56 := blk_frozen BK193.out 7
              have hns56_0 := NB173_193.out
              have hms56_0 := NB193_173.out
              have hs57 : w48.cell? ⟨gb193, 8, none⟩ = some (.int .i64 t192) := (blk_cell BK193.out 8).trans rfl
              have hfs57 := blk_frozen BK193.out 8
              have hns57_0 := NB173_193.out
              have hms57_0 := NB193_173.out
              refine skip_ (w1 := ?_) (by rfl) rfl ?_ ?_
              rotate_left
              · go_simp
                rfl
              refine hK.out _ _ ?_
              clear hK K
              refine done_ (done_of HT_.out (by kernel_rfl)) ?_
              try go_wp2
              go_meet
              case rel => exact ⟨_, (t201), (t174), (((rd_T34 y176 t179).f0)), (((rd_T34 y176 t179).f1)), (wrap64 (1 + t200)), (3), (0), (0), (0), (0), H', ⟨by have := HJ10.out; first | omega | exact Nat.le_refl _⟩, ⟨by (with_reducible repeat (first | refine blk_drewN ?_ _ | refine blk_drew ?_ | refine blk_alloc ?_ _)); refine blk_far ?_ NB173_193.out _; (with_reducible repeat (first | refine blk_drewN ?_ _ | refine blk_drew ?_ | refine blk_alloc ?_ _)); refine blk_far ?_ NB173_193.out _; (with_reducible repeat (first | refine blk_drewN ?_ _ | refine blk_drew ?_ | refine blk_alloc ?_ _)); refine blk_far ?_ NB173_193.out _; (with_reducible repeat (first | refine blk_drewN ?_ _ | refine blk_drew ?_ | refine blk_alloc ?_ _)); refine blk_far ?_ NB173_193.out _; (with_reducible repeat (first | refine blk_drewN ?_ _ | refine blk_drew ?_ | refine blk_alloc ?_ _)); refine blk_far ?_ NB173_193.out _; (with_reducible repeat (first | refine blk_drewN ?_ _ | refine blk_drew ?_ | refine blk_alloc ?_ _)); refine blk_far ?_ NB173_193.out _; (with_reducible repeat (first | refine blk_drewN ?_ _ | refine blk_drew ?_ | refine blk_alloc ?_ _)); refine blk_far ?_ NB173_193.out _; (with_reducible repeat (first | refine blk_drewN ?_ _ | refine blk_drew ?_ | refine blk_alloc ?_ _)); refine blk_far ?_ NB173_193.out _; (with_reducible repeat (first | refine blk_drewN ?_ _ | refine blk_drew ?_ | refine blk_alloc ?_ _)); refine blk_far ?_ NB173_193.out _; (with_reducible repeat (first | refine blk_drewN ?_ _ | refine blk_drew ?_ | refine blk_alloc ?_ _)); exact BK173.out⟩, ⟨by (with_reducible repeat (first | refine blk_drewN ?_ _ | refine blk_drew ?_ | refine blk_alloc ?_ _)); refine blk_put (cs := #[.int .i64 t174, .int .i64 ((rd_T34 y176 t179).f0), .int .i64 ((rd_T34 y176 t179).f1), .int .i64 (wrap64 (1 + t200)), .int .i64 3, .int .i64 0, .int .i64 0, .int .i64 0, .int .i64 t192]) ?_ 8 _ rfl; (with_reducible repeat (first | refine blk_drewN ?_ _ | refine blk_drew ?_ | refine blk_alloc ?_ _)); refine blk_put (cs := #[.int .i64 t174, .int .i64 ((rd_T34 y176 t179).f0), .int .i64 ((rd_T34 y176 t179).f1), .int .i64 (wrap64 (1 + t200)), .int .i64 3, .int .i64 0, .int .i64 0, .int .i64 t191, .int .i64 t192]) ?_ 7 _ rfl; (with_reducible repeat (first | refine blk_drewN ?_ _ | refine blk_drew ?_ | refine blk_alloc ?_ _)); refine blk_put (cs := #[.int .i64 t174, .int .i64 ((rd_T34 y176 t179).f0), .int .i64 ((rd_T34 y176 t179).f1), .int .i64 (wrap64 (1 + t200)), .int .i64 3, .int .i64 0, .int .i64 t190, .int .i64 t191, .int .i64 t192]) ?_ 6 _ rfl; (with_reducible repeat (first | refine blk_drewN ?_ _ | refine blk_drew ?_ | refine blk_alloc ?_ _)); refine blk_put (cs := #[.int .i64 t174, .int .i64 ((rd_T34 y176 t179).f0), .int .i64 ((rd_T34 y176 t179).f1), .int .i64 (wrap64 (1 + t200)), .int .i64 3, .int .i64 t189, .int .i64 t190, .int .i64 t191, .int .i64 t192]) ?_ 5 _ rfl; (with_reducible repeat (first | refine blk_drewN ?_ _ | refine blk_drew ?_ | refine blk_alloc ?_ _)); refine blk_put (cs := #[.int .i64 t174, .int .i64 ((rd_T34 y176 t179).f0), .int .i64 ((rd_T34 y176 t179).f1), .int .i64 (wrap64 (1 + t200)), .int .i64 x194004_10, .int .i64 t189, .int .i64 t190, .int .i64 t191, .int .i64 t192]) ?_ 4 _ rfl; (with_reducible repeat (first | refine blk_drewN ?_ _ | refine blk_drew ?_ | refine blk_alloc ?_ _)); refine blk_put (cs := #[.int .i64 t174, .int .i64 ((rd_T34 y176 t179).f0), .int .i64 ((rd_T34 y176 t179).f1), .int .i64 x194003_10, .int .i64 x194004_10, .int .i64 t189, .int .i64 t190, .int .i64 t191, .int .i64 t192]) ?_ 3 _ rfl; (with_reducible repeat (first | refine blk_drewN ?_ _ | refine blk_drew ?_ | refine blk_alloc ?_ _)); refine blk_put (cs := #[.int .i64 t174, .int .i64 ((rd_T34 y176 t179).f0), .int .i64 ((rd_T34 y176 t179).f1), .int .i64 x194003_10, .int .i64 x194004_10, .int .i64 t189, .int .i64 t190, .int .i64 t191, .int .i64 t192]) ?_ 2 _ rfl; (with_reducible repeat (first | refine blk_drewN ?_ _ | refine blk_drew ?_ | refine blk_alloc ?_ _)); refine blk_put (cs := #[.int .i64 t174, .int .i64 ((rd_T34 y176 t179).f0), .int .i64 ((rd_T34 y176 t179).f1), .int .i64 x194003_10, .int .i64 x194004_10, .int .i64 t189, .int .i64 t190, .int .i64 t191, .int .i64 t192]) ?_ 1 _ rfl; (with_reducible repeat (first | refine blk_drewN ?_ _ | refine blk_drew ?_ | refine blk_alloc ?_ _)); refine blk_put (cs := #[.int .i64 t174, .int .i64 ((rd_T34 y176 t179).f0), .int .i64 ((rd_T34 y176 t179).f1), .int .i64 x194003_10, .int .i64 x194004_10, .int .i64 t189, .int .i64 t190, .int .i64 t191, .int .i64 t192]) ?_ 0 _ rfl; (with_reducible repeat (first | refine blk_drewN ?_ _ | refine blk_drew ?_ | refine blk_alloc ?_ _)); exact BK193.out⟩, ⟨by repeat (first | (with_reducible first | exact HI0.out | apply IsS115.alloc | apply IsS115.drewN | apply IsS115.drew | apply IsS115.set_1 | refine IsS115.far ?_ NB0_173.out _ | refine IsS115.far ?_ NB0_193.out _) | exact HI0.out)⟩, ⟨by repeat (first | (with_reducible first | exact HK.out | apply KeepBut.set_ | apply keep_drewN | apply keep_drew | apply keep_alloc | refine keep_far ?_ GW173.out _ | refine keep_far ?_ GW193.out _) | exact HK.out)⟩, ⟨by repeat (first | (with_reducible first | exact HB.out | apply below_alloc | apply pw_below_drewN | apply below_drew1 | refine below_set ?_ (IsS115.ge HI0.out) | refine below_set ?_ GE173.out | refine below_set ?_ GE193.out) | exact HB.out)⟩⟩
            · rw [if_neg c45] at H
              have c45b0 : (t198 == 0) = false := beq_eq_false_iff_ne.mpr c45
              have c45b1 : (t198 != 0) = true := bne_iff_ne.mpr c45
              (first | rw [c45b0] | (simp only [i64_w, i32_w]; rw [c45b0]) | skip)
              have H' := Aside0.mk H
              clear H
              go_wp2
              go_meet
              case rel => exact ⟨_, (t199), (t174), (((rd_T34 y176 t179).f0)), (((rd_T34 y176 t179).f1)), (x194003_10), (x194004_10), (t189), (t190), (t191), (t192), H', ⟨by have := HJ10.out; first | omega | exact Nat.le_refl _⟩, ⟨by (with_reducible repeat (first | refine blk_drewN ?_ _ | refine blk_drew ?_ | refine blk_alloc ?_ _)); exact BK173.out⟩, ⟨by (with_reducible repeat (first | refine blk_drewN ?_ _ | refine blk_drew ?_ | refine blk_alloc ?_ _)); exact BK193.out⟩, ⟨by repeat (first | (with_reducible first | exact HI0.out | apply IsS115.alloc | apply IsS115.drewN | apply IsS115.drew | apply IsS115.set_1 | refine IsS115.far ?_ NB0_173.out _ | refine IsS115.far ?_ NB0_193.out _) | exact HI0.out)⟩, ⟨by repeat (first | (with_reducible first | exact HK.out | apply KeepBut.set_ | apply keep_drewN | apply keep_drew | apply keep_alloc | refine keep_far ?_ GW173.out _ | refine keep_far ?_ GW193.out _) | exact HK.out)⟩, ⟨by repeat (first | (with_reducible first | exact HB.out | apply below_alloc | apply pw_below_drewN | apply below_drew1 | refine below_set ?_ (IsS115.ge HI0.out) | refine below_set ?_ GE173.out | refine below_set ?_ GE193.out) | exact HB.out)⟩⟩
          case rest =>
            clear HC43
            try clear hx1
            try clear qi1
            try clear c2
            try clear p2
            try clear c3
            try clear c4
            try clear p6
            try clear c7
            try clear c9
            try clear qi18
            try clear c35
            try clear c35b0
            try clear c35b1
            try clear c37
            try clear c38
            try clear c45
            try clear c45b0
            try clear c45b1
            try clear hcz39_0
            try clear hcz39_1
            try clear hcz39_2
            try clear hcz39_3
            try clear hcz39_4
            try clear hcz39_5
            try clear hcz39_6
            try clear hcz39_7
            try clear hcz39_8
            try clear hcz41_0
            try clear hcz41_1
            try clear hcz41_2
            try clear hcz41_3
            try clear hcz41_4
            try clear hcz41_5
            try clear hcz41_6
            try clear hcz41_7
            try clear hcz41_8
            try clear hfz39_0
            try clear hfz39_1
            try clear hfz39_2
            try clear hfz39_3
            try clear hfz39_4
            try clear hfz39_5
            try clear hfz39_6
            try clear hfz39_7
            try clear hfz39_8
            try clear hfz41_0
            try clear hfz41_1
            try clear hfz41_2
            try clear hfz41_3
            try clear hfz41_4
            try clear hfz41_5
            try clear hfz41_6
            try clear hfz41_7
            try clear hfz41_8
            try clear p2
            try clear p6
            obtain ⟨kq, x1001_42, x194000_42, x194001_42, x194002_42, x194003_42, x194004_42, x194005_42, x194006_42, x194007_42, x194008_42, HA, HJ42, BK173, BK193, HI0, HK, HB⟩ := hcut
            cases kq with
            | zero => exact absurd HA.out (by simp [spec_l20Pane.j1])
            | succ kj42 =>
              have H := HA.out
              clear HA
              simp only [spec_l20Pane.j1] at H
              replace H := Option.bind_eq_some_iff.mp H
              obtain ⟨⟨t202, t203⟩, A580, H⟩ := H
              replace H : (if t202 > 0 then (some (x194000_42, x194001_42, x194002_42, x194003_42, x194004_42, x194005_42, x194006_42, x194007_42, x194008_42, t203)) else ((spec_l20Rd_pick.f kj42 s0_0 t203 5).bind fun bt204 => (if bt204.1 = 0 then ((some (([(-1), 4] : List Int) : List Int)).bind fun y206 => ((spec_l20Rd_pick.f kj42 s0_0 bt204.2 2).bind fun bt209 => (if 0 ≤ bt209.1 then (if bt209.1 < (y206.length : Int) then (some (rd y206 bt209.1, x194001_42, x194002_42, x194003_42, x194004_42, x194005_42, x194006_42, x194007_42, x194008_42, bt209.2)) else (none)) else (none)))) else (if bt204.1 = 1 then ((spec_l20Win.f kj42 s0_0 bt204.2 1).bind fun bt212 => (some (x194000_42, bt212.1, bt212.2.1, x194003_42, x194004_42, x194005_42, x194006_42, x194007_42, x194008_42, bt212.2.2))) else (if bt204.1 = 2 then ((some (([(-1), 0, 1, 1500, 1501] : List Int) : List Int)).bind fun y215 => ((spec_l20Rd_pick.f kj42 s0_0 bt204.2 5).bind fun bt218 => (if 0 ≤ bt218.1 then (if bt218.1 < (y215.length : Int) then (some (x194000_42, x194001_42, x194002_42, rd y215 bt218.1, x194004_42, x194005_42, x194006_42, x194007_42, x194008_42, bt218.2)) else (none)) else (none)))) else (if bt204.1 = 3 then ((spec_l20Rd_pick.f kj42 s0_0 bt204.2 5).bind fun bt221 => (some (x194000_42, x194001_42, x194002_42, x194003_42, bt221.1, x194005_42, x194006_42, x194007_42, x194008_42, bt221.2))) else ((spec_l20Agg.f kj42 s0_0 bt204.2 1).bind fun bt223 => (some (x194000_42, x194001_42, x194002_42, x194003_42, x194004_42, bt223.1, bt223.2.1, bt223.2.2.1, bt223.2.2.2.1, bt223.2.2.2.2))))))))) = some (r1, r2, r3, r4, r5, r6, r7, r8, r9, r10) := H
              have A58 := Aside0.mk A580
              clear A580
              by_cases c59 : t202 > 0
              · rw [if_pos c59] at H
                have c59b0 : decide (0 < t202) = true := decide_eq_true c59
                clear c59
                simp only [Option.some.injEq, Prod.mk.injEq] at H
                obtain ⟨rfl, rfl, rfl, rfl, rfl, rfl, rfl, rfl, rfl, rfl⟩ := H
                go_wp2_with (first | ((with_reducible refine gate_callee (f := 74) rfl ?_); refine goesL_ (some 44) rfl rfl Try.func74 (by kernel_rfl) rfl #[.pointer (some ⟨g, 0, none⟩), .int .i64 a1] rfl (by (try simp only [List.map_toArray, List.map_cons, List.map_nil]); first | done | rfl | (simp only [List.length_drop, List.length_take]; rfl)) ?_; (with_reducible refine (spec_l20Rd_pick.calls kj42 g s0_0 x1001_42 a1 t202 t203 w0 _ ?side1 ?side2 A58.out).mono ?_); (case side1 => repeat (first | (with_reducible first | exact HI0.out | apply IsS115.alloc | apply IsS115.drewN | apply IsS115.drew | apply IsS115.set_1 | refine IsS115.far ?_ NB0_173.out _ | refine IsS115.far ?_ NB0_193.out _) | exact HI0.out)); (case side2 => repeat (first | (with_reducible first | exact HB.out | apply below_alloc | apply pw_below_drewN | apply below_drew1 | refine below_set ?_ (IsS115.ge HI0.out) | refine below_set ?_ GE173.out | refine below_set ?_ GE193.out) | exact HB.out)); rintro e w60 ⟨rfl, hi, hb, hk⟩; refine ⟨_, rfl, ?_⟩; have n0_ := Aside0.mk (KeepBut.blk hk (g' := gb173) (o := .cells #[.int .i64 0, .int .i64 0, .int .i64 0, .int .i64 0, .int .i64 0, .int .i64 0, .int .i64 0, .int .i64 0, .int .i64 0] 85 (0, 0)) (by (with_reducible repeat (first | refine blk_drewN ?_ _ | refine blk_drew ?_ | refine blk_alloc ?_ _)); exact BK173.out) NB173_0.out (by simp)); have n1_ := Aside0.mk (KeepBut.blk hk (g' := gb193) (o := .cells #[.int .i64 x194000_42, .int .i64 x194001_42, .int .i64 x194002_42, .int .i64 x194003_42, .int .i64 x194004_42, .int .i64 x194005_42, .int .i64 x194006_42, .int .i64 x194007_42, .int .i64 x194008_42] 85 (0, 0)) (by (with_reducible repeat (first | refine blk_drewN ?_ _ | refine blk_drew ?_ | refine blk_alloc ?_ _)); exact BK193.out) NB193_0.out (by simp)); have n2_ := Aside0.mk (KeepBut.trans (by repeat (first | (with_reducible first | exact HK.out | apply KeepBut.set_ | apply keep_drewN | apply keep_drew | apply keep_alloc | refine keep_far ?_ GW173.out _ | refine keep_far ?_ GW193.out _) | exact HK.out)) hk (.inl rfl)); have n3_ := Aside0.mk (hb); have n4_ := Aside0.mk (hi); clear BK173; clear BK193; clear HK; clear HB; clear HI0; have BK173 := n0_; have BK193 := n1_; have HK := n2_; have HB := n3_; have HI0 := n4_; clear n0_ n1_ n2_ n3_ n4_; (try clear hb); (try clear hb2); (try clear hk); (try clear hi); have hnb61 := NB193_173.out; have hnc61 := NB173_193.out; have hnb62 := NB193_0.out; have hnc62 := NB0_193.out; have hcz63_0 : w60.cell? ⟨gb193, 0, none⟩ = some (.int .i64 x194000_42) := (blk_cell BK193.out 0).trans rfl; have hcz63_1 : w60.cell? ⟨gb193, 1, none⟩ = some (.int .i64 x194001_42) := (blk_cell BK193.out 1).trans rfl; have hcz63_2 : w60.cell? ⟨gb193, 2, none⟩ = some (.int .i64 x194002_42) := (blk_cell BK193.out 2).trans rfl; have hcz63_3 : w60.cell? ⟨gb193, 3, none⟩ = some (.int .i64 x194003_42) := (blk_cell BK193.out 3).trans rfl; have hcz63_4 : w60.cell? ⟨gb193, 4, none⟩ = some (.int .i64 x194004_42) := (blk_cell BK193.out 4).trans rfl; have hcz63_5 : w60.cell? ⟨gb193, 5, none⟩ = some (.int .i64 x194005_42) := (blk_cell BK193.out 5).trans rfl; have hcz63_6 : w60.cell? ⟨gb193, 6, none⟩ = some (.int .i64 x194006_42) := (blk_cell BK193.out 6).trans rfl; have hcz63_7 : w60.cell? ⟨gb193, 7, none⟩ = some (.int .i64 x194007_42) := (blk_cell BK193.out 7).trans rfl; have hcz63_8 : w60.cell? ⟨gb193, 8, none⟩ = some (.int .i64 x194008_42) := (blk_cell BK193.out 8).trans rfl; have hfz63_0 := blk_frozen BK193.out 0; have hfz63_1 := blk_frozen BK193.out 1; have hfz63_2 := blk_frozen BK193.out 2; have hfz63_3 := blk_frozen BK193.out 3; have hfz63_4 := blk_frozen BK193.out 4; have hfz63_5 := blk_frozen BK193.out 5; have hfz63_6 := blk_frozen BK193.out 6; have hfz63_7 := blk_frozen BK193.out 7; have hfz63_8 := blk_frozen BK193.out 8; have hnb64 := NB173_0.out; have hnc64 := NB0_173.out; have hcz65_0 : w60.cell? ⟨gb173, 0, none⟩ = some (.int .i64 0) := (blk_cell BK173.out 0).trans rfl; have hcz65_1 : w60.cell? ⟨gb173, 1, none⟩ = some (.int .i64 0) := (blk_cell BK173.out 1).trans rfl; have hcz65_2 : w60.cell? ⟨gb173, 2, none⟩ = some (.int .i64 0) := (blk_cell BK173.out 2).trans rfl; have hcz65_3 : w60.cell? ⟨gb173, 3, none⟩ = some (.int .i64 0) := (blk_cell BK173.out 3).trans rfl; have hcz65_4 : w60.cell? ⟨gb173, 4, none⟩ = some (.int .i64 0) := (blk_cell BK173.out 4).trans rfl; have hcz65_5 : w60.cell? ⟨gb173, 5, none⟩ = some (.int .i64 0) := (blk_cell BK173.out 5).trans rfl; have hcz65_6 : w60.cell? ⟨gb173, 6, none⟩ = some (.int .i64 0) := (blk_cell BK173.out 6).trans rfl; have hcz65_7 : w60.cell? ⟨gb173, 7, none⟩ = some (.int .i64 0) := (blk_cell BK173.out 7).trans rfl; have hcz65_8 : w60.cell? ⟨gb173, 8, none⟩ = some (.int .i64 0) := (blk_cell BK173.out 8).trans rfl; have hfz65_0 := blk_frozen BK173.out 0; have hfz65_1 := blk_frozen BK173.out 1; have hfz65_2 := blk_frozen BK173.out 2; have hfz65_3 := blk_frozen BK173.out 3; have hfz65_4 := blk_frozen BK173.out 4; have hfz65_5 := blk_frozen BK173.out 5; have hfz65_6 := blk_frozen BK173.out 6; have hfz65_7 := blk_frozen BK173.out 7; have hfz65_8 := blk_frozen BK173.out 8))
                refine bodyPost_ret (results_cell_row rfl _ _ gb173 85 #[.int .i64 x194000_42, .int .i64 x194001_42, .int .i64 x194002_42, .int .i64 x194003_42, .int .i64 x194004_42, .int .i64 x194005_42, .int .i64 x194006_42, .int .i64 x194007_42, .int .i64 x194008_42] (0, 0) _ rfl (by (with_reducible repeat (first | refine blk_drewN ?_ _ | refine blk_drew ?_ | refine blk_alloc ?_ _)); refine blk_put (cs := #[.int .i64 x194000_42, .int .i64 x194001_42, .int .i64 x194002_42, .int .i64 x194003_42, .int .i64 x194004_42, .int .i64 x194005_42, .int .i64 x194006_42, .int .i64 x194007_42, .int .i64 0]) ?_ 8 _ rfl; (with_reducible repeat (first | refine blk_drewN ?_ _ | refine blk_drew ?_ | refine blk_alloc ?_ _)); refine blk_put (cs := #[.int .i64 x194000_42, .int .i64 x194001_42, .int .i64 x194002_42, .int .i64 x194003_42, .int .i64 x194004_42, .int .i64 x194005_42, .int .i64 x194006_42, .int .i64 0, .int .i64 0]) ?_ 7 _ rfl; (with_reducible repeat (first | refine blk_drewN ?_ _ | refine blk_drew ?_ | refine blk_alloc ?_ _)); refine blk_put (cs := #[.int .i64 x194000_42, .int .i64 x194001_42, .int .i64 x194002_42, .int .i64 x194003_42, .int .i64 x194004_42, .int .i64 x194005_42, .int .i64 0, .int .i64 0, .int .i64 0]) ?_ 6 _ rfl; (with_reducible repeat (first | refine blk_drewN ?_ _ | refine blk_drew ?_ | refine blk_alloc ?_ _)); refine blk_put (cs := #[.int .i64 x194000_42, .int .i64 x194001_42, .int .i64 x194002_42, .int .i64 x194003_42, .int .i64 x194004_42, .int .i64 0, .int .i64 0, .int .i64 0, .int .i64 0]) ?_ 5 _ rfl; (with_reducible repeat (first | refine blk_drewN ?_ _ | refine blk_drew ?_ | refine blk_alloc ?_ _)); refine blk_put (cs := #[.int .i64 x194000_42, .int .i64 x194001_42, .int .i64 x194002_42, .int .i64 x194003_42, .int .i64 0, .int .i64 0, .int .i64 0, .int .i64 0, .int .i64 0]) ?_ 4 _ rfl; (with_reducible repeat (first | refine blk_drewN ?_ _ | refine blk_drew ?_ | refine blk_alloc ?_ _)); refine blk_put (cs := #[.int .i64 x194000_42, .int .i64 x194001_42, .int .i64 x194002_42, .int .i64 0, .int .i64 0, .int .i64 0, .int .i64 0, .int .i64 0, .int .i64 0]) ?_ 3 _ rfl; (with_reducible repeat (first | refine blk_drewN ?_ _ | refine blk_drew ?_ | refine blk_alloc ?_ _)); refine blk_put (cs := #[.int .i64 x194000_42, .int .i64 x194001_42, .int .i64 0, .int .i64 0, .int .i64 0, .int .i64 0, .int .i64 0, .int .i64 0, .int .i64 0]) ?_ 2 _ rfl; (with_reducible repeat (first | refine blk_drewN ?_ _ | refine blk_drew ?_ | refine blk_alloc ?_ _)); refine blk_put (cs := #[.int .i64 x194000_42, .int .i64 0, .int .i64 0, .int .i64 0, .int .i64 0, .int .i64 0, .int .i64 0, .int .i64 0, .int .i64 0]) ?_ 1 _ rfl; (with_reducible repeat (first | refine blk_drewN ?_ _ | refine blk_drew ?_ | refine blk_alloc ?_ _)); refine blk_put (cs := #[.int .i64 0, .int .i64 0, .int .i64 0, .int .i64 0, .int .i64 0, .int .i64 0, .int .i64 0, .int .i64 0, .int .i64 0]) ?_ 0 _ rfl; (with_reducible repeat (first | refine blk_drewN ?_ _ | refine blk_drew ?_ | refine blk_alloc ?_ _)); exact BK173.out) Try.underlying85 rfl (by kernel_rfl)) rfl ?_
                exact ⟨by first | rfl | (simp [errW_none, errW_some] <;> rfl) | (simp [*, errW_none, errW_some] <;> rfl), by repeat (first | (with_reducible first | exact HI0.out | apply IsS115.alloc | apply IsS115.drewN | apply IsS115.drew | apply IsS115.set_1 | refine IsS115.far ?_ NB0_173.out _ | refine IsS115.far ?_ NB0_193.out _) | exact HI0.out), by repeat (first | (with_reducible first | exact HB.out | apply below_alloc | apply pw_below_drewN | apply below_drew1 | refine below_set ?_ (IsS115.ge HI0.out) | refine below_set ?_ GE173.out | refine below_set ?_ GE193.out) | exact HB.out), by repeat (first | (with_reducible first | exact HK.out | apply KeepBut.set_ | apply keep_drewN | apply keep_drew | apply keep_alloc | refine keep_far ?_ GW173.out _ | refine keep_far ?_ GW193.out _) | exact HK.out)⟩
              · rw [if_neg c59] at H
                have c59b0 : decide (0 < t202) = false := decide_eq_false c59
                clear c59
                replace H := Option.bind_eq_some_iff.mp H
                obtain ⟨⟨t204, t205⟩, A660, H⟩ := H
                replace H : (if t204 = 0 then ((some (([(-1), 4] : List Int) : List Int)).bind fun y206 => ((spec_l20Rd_pick.f kj42 s0_0 t205 2).bind fun bt209 => (if 0 ≤ bt209.1 then (if bt209.1 < (y206.length : Int) then (some (rd y206 bt209.1, x194001_42, x194002_42, x194003_42, x194004_42, x194005_42, x194006_42, x194007_42, x194008_42, bt209.2)) else (none)) else (none)))) else (if t204 = 1 then ((spec_l20Win.f kj42 s0_0 t205 1).bind fun bt212 => (some (x194000_42, bt212.1, bt212.2.1, x194003_42, x194004_42, x194005_42, x194006_42, x194007_42, x194008_42, bt212.2.2))) else (if t204 = 2 then ((some (([(-1), 0, 1, 1500, 1501] : List Int) : List Int)).bind fun y215 => ((spec_l20Rd_pick.f kj42 s0_0 t205 5).bind fun bt218 => (if 0 ≤ bt218.1 then (if bt218.1 < (y215.length : Int) then (some (x194000_42, x194001_42, x194002_42, rd y215 bt218.1, x194004_42, x194005_42, x194006_42, x194007_42, x194008_42, bt218.2)) else (none)) else (none)))) else (if t204 = 3 then ((spec_l20Rd_pick.f kj42 s0_0 t205 5).bind fun bt221 => (some (x194000_42, x194001_42, x194002_42, x194003_42, bt221.1, x194005_42, x194006_42, x194007_42, x194008_42, bt221.2))) else ((spec_l20Agg.f kj42 s0_0 t205 1).bind fun bt223 => (some (x194000_42, x194001_42, x194002_42, x194003_42, x194004_42, bt223.1, bt223.2.1, bt223.2.2.1, bt223.2.2.2.1, bt223.2.2.2.2))))))) = some (r1, r2, r3, r4, r5, r6, r7, r8, r9, r10) := H
                have A66 := Aside0.mk A660
                clear A660
                by_cases c67 : t204 = 0
                · rw [if_pos c67] at H
                  have c67b0 : (t204 == 0) = true := beq_iff_eq.mpr c67
                  have c67b1 : (t204 != 0) = false := bne_eq_false_iff_eq.mpr c67
                  clear c67
                  obtain ⟨y206, hy206⟩ : ∃ y_ : List Int, y_ = (([(-1), 4] : List Int)) := ⟨_, rfl⟩
                  replace H : ((spec_l20Rd_pick.f kj42 s0_0 t205 2).bind fun bt209 => (if 0 ≤ bt209.1 then (if bt209.1 < (y206.length : Int) then (some (rd y206 bt209.1, x194001_42, x194002_42, x194003_42, x194004_42, x194005_42, x194006_42, x194007_42, x194008_42, bt209.2)) else (none)) else (none))) = some (r1, r2, r3, r4, r5, r6, r7, r8, r9, r10) := by first | (rw [hy206]; with_reducible exact H) | (have H2_ := (Option.bind_some _ _).symm.trans H; rw [hy206]; with_reducible exact H2_) | (have H2_ := (Option.bind_some _ _).symm.trans H; with_reducible exact H2_) | with_reducible exact H | (rw [hy206]; exact H) | exact H
                  have Ny206 := Aside0.mk hy206
                  clear hy206
                  replace H := Option.bind_eq_some_iff.mp H
                  obtain ⟨⟨t209, t210⟩, A680, H⟩ := H
                  replace H : (if 0 ≤ t209 then (if t209 < (y206.length : Int) then (some (rd y206 t209, x194001_42, x194002_42, x194003_42, x194004_42, x194005_42, x194006_42, x194007_42, x194008_42, t210)) else (none)) else (none)) = some (r1, r2, r3, r4, r5, r6, r7, r8, r9, r10) := H
                  have A68 := Aside0.mk A680
                  clear A680
                  by_cases c69 : 0 ≤ t209
                  · rw [if_pos c69] at H
                    have c69b0 : decide (0 ≤ t209) = true := decide_eq_true c69
                    clear c69
                    by_cases c70 : t209 < (y206.length : Int)
                    · rw [if_pos c70] at H
                      have c70b0 : decide (t209 < (y206.length : Int)) = true := decide_eq_true c70
                      clear c70
                      simp only [Option.some.injEq, Prod.mk.injEq] at H
                      obtain ⟨rfl, rfl, rfl, rfl, rfl, rfl, rfl, rfl, rfl, rfl⟩ := H
                      go_wp2_with (first | ((with_reducible refine gate_callee (f := 74) rfl ?_); refine goesL_ (some 44) rfl rfl Try.func74 (by kernel_rfl) rfl #[.pointer (some ⟨g, 0, none⟩), .int .i64 a1] rfl (by (try simp only [List.map_toArray, List.map_cons, List.map_nil]); first | done | rfl | (simp only [List.length_drop, List.length_take]; rfl)) ?_; (with_reducible refine (spec_l20Rd_pick.calls kj42 g s0_0 x1001_42 a1 t202 t203 w0 _ ?side1 ?side2 A58.out).mono ?_); (case side1 => repeat (first | (with_reducible first | exact HI0.out | apply IsS115.alloc | apply IsS115.drewN | apply IsS115.drew | apply IsS115.set_1 | refine IsS115.far ?_ NB0_173.out _ | refine IsS115.far ?_ NB0_193.out _) | exact HI0.out)); (case side2 => repeat (first | (with_reducible first | exact HB.out | apply below_alloc | apply pw_below_drewN | apply below_drew1 | refine below_set ?_ (IsS115.ge HI0.out) | refine below_set ?_ GE173.out | refine below_set ?_ GE193.out) | exact HB.out)); rintro e w71 ⟨rfl, hi, hb, hk⟩; refine ⟨_, rfl, ?_⟩; have n0_ := Aside0.mk (KeepBut.blk hk (g' := gb173) (o := .cells #[.int .i64 0, .int .i64 0, .int .i64 0, .int .i64 0, .int .i64 0, .int .i64 0, .int .i64 0, .int .i64 0, .int .i64 0] 85 (0, 0)) (by (with_reducible repeat (first | refine blk_drewN ?_ _ | refine blk_drew ?_ | refine blk_alloc ?_ _)); exact BK173.out) NB173_0.out (by simp)); have n1_ := Aside0.mk (KeepBut.blk hk (g' := gb193) (o := .cells #[.int .i64 x194000_42, .int .i64 x194001_42, .int .i64 x194002_42, .int .i64 x194003_42, .int .i64 x194004_42, .int .i64 x194005_42, .int .i64 x194006_42, .int .i64 x194007_42, .int .i64 x194008_42] 85 (0, 0)) (by (with_reducible repeat (first | refine blk_drewN ?_ _ | refine blk_drew ?_ | refine blk_alloc ?_ _)); exact BK193.out) NB193_0.out (by simp)); have n2_ := Aside0.mk (KeepBut.trans (by repeat (first | (with_reducible first | exact HK.out | apply KeepBut.set_ | apply keep_drewN | apply keep_drew | apply keep_alloc | refine keep_far ?_ GW173.out _ | refine keep_far ?_ GW193.out _) | exact HK.out)) hk (.inl rfl)); have n3_ := Aside0.mk (hb); have n4_ := Aside0.mk (hi); clear BK173; clear BK193; clear HK; clear HB; clear HI0; have BK173 := n0_; have BK193 := n1_; have HK := n2_; have HB := n3_; have HI0 := n4_; clear n0_ n1_ n2_ n3_ n4_; (try clear hb); (try clear hb2); (try clear hk); (try clear hi)) | ((with_reducible refine gate_callee (f := 74) rfl ?_); refine goesL_ (some 48) rfl rfl Try.func74 (by kernel_rfl) rfl #[.pointer (some ⟨g, 0, none⟩), .int .i64 5] rfl (by (try simp only [List.map_toArray, List.map_cons, List.map_nil]); first | done | rfl | (simp only [List.length_drop, List.length_take]; rfl)) ?_; (with_reducible refine (spec_l20Rd_pick.calls kj42 g s0_0 t203 5 t204 t205 w0 _ ?side1 ?side2 A66.out).mono ?_); (case side1 => repeat (first | (with_reducible first | exact HI0.out | apply IsS115.alloc | apply IsS115.drewN | apply IsS115.drew | apply IsS115.set_1 | refine IsS115.far ?_ NB0_173.out _ | refine IsS115.far ?_ NB0_193.out _) | exact HI0.out)); (case side2 => repeat (first | (with_reducible first | exact HB.out | apply below_alloc | apply pw_below_drewN | apply below_drew1 | refine below_set ?_ (IsS115.ge HI0.out) | refine below_set ?_ GE173.out | refine below_set ?_ GE193.out) | exact HB.out)); rintro e w72 ⟨rfl, hi, hb, hk⟩; refine ⟨_, rfl, ?_⟩; have n0_ := Aside0.mk (KeepBut.blk hk (g' := gb173) (o := .cells #[.int .i64 0, .int .i64 0, .int .i64 0, .int .i64 0, .int .i64 0, .int .i64 0, .int .i64 0, .int .i64 0, .int .i64 0] 85 (0, 0)) (by (with_reducible repeat (first | refine blk_drewN ?_ _ | refine blk_drew ?_ | refine blk_alloc ?_ _)); exact BK173.out) NB173_0.out (by simp)); have n1_ := Aside0.mk (KeepBut.blk hk (g' := gb193) (o := .cells #[.int .i64 x194000_42, .int .i64 x194001_42, .int .i64 x194002_42, .int .i64 x194003_42, .int .i64 x194004_42, .int .i64 x194005_42, .int .i64 x194006_42, .int .i64 x194007_42, .int .i64 x194008_42] 85 (0, 0)) (by (with_reducible repeat (first | refine blk_drewN ?_ _ | refine blk_drew ?_ | refine blk_alloc ?_ _)); exact BK193.out) NB193_0.out (by simp)); have n2_ := Aside0.mk (KeepBut.trans (by repeat (first | (with_reducible first | exact HK.out | apply KeepBut.set_ | apply keep_drewN | apply keep_drew | apply keep_alloc | refine keep_far ?_ GW173.out _ | refine keep_far ?_ GW193.out _) | exact HK.out)) hk (.inl rfl)); have n3_ := Aside0.mk (hb); have n4_ := Aside0.mk (hi); clear BK173; clear BK193; clear HK; clear HB; clear HI0; have BK173 := n0_; have BK193 := n1_; have HK := n2_; have HB := n3_; have HI0 := n4_; clear n0_ n1_ n2_ n3_ n4_; (try clear hb); (try clear hb2); (try clear hk); (try clear hi)) | ((with_reducible refine gate_dst (N := 54) rfl ?_); refine Kd.R_lit (Kd.int .i64) _ 3 ?hg (N := 54) ?hd (xs := ([(-1), 4] : List Int)) (inner := [.int .i64 (-1), .int .i64 4]) (ok := fun _ => True) (okp := fun _ => True) ?hr ?hp (fun _ hk => hk) trivial (Below.refl _ _) (Nat.le_refl _) (by simp) ?_; (case hd => rfl); (case hg => rfl); (case hr => first | (go_simp; done) | (go_simp; rfl)); (case hp => exact (Reps.one (show Kd.M (Kd.int .i64) _ _ _ (-1) [.int .i64 (-1)] from rfl) (Reps.one (show Kd.M (Kd.int .i64) _ _ _ 4 [.int .i64 4] from rfl) (Reps.none _ _)))); intro v207 w73 ho74 hb hg_ hnew_; clear hg_ hnew_; (first | rw [← Ny206.out] at ho74 | (simp only [Int.reduceToNat] at ho74; rw [← Ny206.out] at ho74)); have n0_ := Aside0.mk (Kd.R_lower ho74 (keep_size (w := w) (g := g) (row := none) (by repeat (first | (with_reducible first | exact HK.out | apply KeepBut.set_ | apply keep_drewN | apply keep_drew | apply keep_alloc | refine keep_far ?_ GW173.out _ | refine keep_far ?_ GW193.out _) | exact HK.out)))); have n1_ := Aside0.mk (blk_below (g := gb173) (o := .cells #[.int .i64 0, .int .i64 0, .int .i64 0, .int .i64 0, .int .i64 0, .int .i64 0, .int .i64 0, .int .i64 0, .int .i64 0] 85 (0, 0)) (by (with_reducible repeat (first | refine blk_drewN ?_ _ | refine blk_drew ?_ | refine blk_alloc ?_ _)); exact BK173.out) hb); have n2_ := Aside0.mk (blk_below (g := gb193) (o := .cells #[.int .i64 x194000_42, .int .i64 x194001_42, .int .i64 x194002_42, .int .i64 x194003_42, .int .i64 x194004_42, .int .i64 x194005_42, .int .i64 x194006_42, .int .i64 x194007_42, .int .i64 x194008_42] 85 (0, 0)) (by (with_reducible repeat (first | refine blk_drewN ?_ _ | refine blk_drew ?_ | refine blk_alloc ?_ _)); exact BK193.out) hb); have n3_ := Aside0.mk (IsS115.below (by repeat (first | (with_reducible first | exact HI0.out | apply IsS115.alloc | apply IsS115.drewN | apply IsS115.drew | apply IsS115.set_1 | refine IsS115.far ?_ NB0_173.out _ | refine IsS115.far ?_ NB0_193.out _) | exact HI0.out)) hb); have n4_ := Aside0.mk (KeepBut.trans (by repeat (first | (with_reducible first | exact HK.out | apply KeepBut.set_ | apply keep_drewN | apply keep_drew | apply keep_alloc | refine keep_far ?_ GW173.out _ | refine keep_far ?_ GW193.out _) | exact HK.out)) (KeepBut.of_below hb g none) (.inl rfl)); have n5_ := Aside0.mk (below_step (by repeat (first | (with_reducible first | exact HB.out | apply below_alloc | apply pw_below_drewN | apply below_drew1 | refine below_set ?_ (IsS115.ge HI0.out) | refine below_set ?_ GE173.out | refine below_set ?_ GE193.out) | exact HB.out)) hb); clear BK173; clear BK193; clear HI0; clear HK; clear HB; have HO208 := n0_; have BK173 := n1_; have BK193 := n2_; have HI0 := n3_; have HK := n4_; have HB := n5_; clear n0_ n1_ n2_ n3_ n4_ n5_; clear hb ho74) | ((with_reducible refine gate_callee (f := 74) rfl ?_); refine goesL_ (some 56) rfl rfl Try.func74 (by kernel_rfl) rfl #[.pointer (some ⟨g, 0, none⟩), .int .i64 2] rfl (by (try simp only [List.map_toArray, List.map_cons, List.map_nil]); first | done | rfl | (simp only [List.length_drop, List.length_take]; rfl)) ?_; (with_reducible refine (spec_l20Rd_pick.calls kj42 g s0_0 t205 2 t209 t210 w0 _ ?side1 ?side2 A68.out).mono ?_); (case side1 => repeat (first | (with_reducible first | exact HI0.out | apply IsS115.alloc | apply IsS115.drewN | apply IsS115.drew | apply IsS115.set_1 | refine IsS115.far ?_ NB0_173.out _ | refine IsS115.far ?_ NB0_193.out _) | exact HI0.out)); (case side2 => repeat (first | (with_reducible first | exact HB.out | apply below_alloc | apply pw_below_drewN | apply below_drew1 | refine below_set ?_ (IsS115.ge HI0.out) | refine below_set ?_ GE173.out | refine below_set ?_ GE193.out) | exact HB.out)); rintro e w75 ⟨rfl, hi, hb, hk⟩; refine ⟨_, rfl, ?_⟩; have n0_ := Aside0.mk (KeepBut.blk hk (g' := gb173) (o := .cells #[.int .i64 0, .int .i64 0, .int .i64 0, .int .i64 0, .int .i64 0, .int .i64 0, .int .i64 0, .int .i64 0, .int .i64 0] 85 (0, 0)) (by (with_reducible repeat (first | refine blk_drewN ?_ _ | refine blk_drew ?_ | refine blk_alloc ?_ _)); exact BK173.out) NB173_0.out (by simp)); have n1_ := Aside0.mk (KeepBut.blk hk (g' := gb193) (o := .cells #[.int .i64 x194000_42, .int .i64 x194001_42, .int .i64 x194002_42, .int .i64 x194003_42, .int .i64 x194004_42, .int .i64 x194005_42, .int .i64 x194006_42, .int .i64 x194007_42, .int .i64 x194008_42] 85 (0, 0)) (by (with_reducible repeat (first | refine blk_drewN ?_ _ | refine blk_drew ?_ | refine blk_alloc ?_ _)); exact BK193.out) NB193_0.out (by simp)); have n2_ := Aside0.mk (Kd.R_mono (Kd.R_keep (IsS115.apart (show IsS115 w0 _ g s0_0 t205 from by repeat (first | (with_reducible first | exact HI0.out | apply IsS115.alloc | apply IsS115.drewN | apply IsS115.drew | apply IsS115.set_1 | refine IsS115.far ?_ NB0_173.out _ | refine IsS115.far ?_ NB0_193.out _) | exact HI0.out)) (by (with_reducible repeat (first | apply Kd.R_alloc | apply Kd.R_drewN | apply Kd.R_drew)); exact HO208.out) (by decide)) hk (fun _ h => h.2)) (fun _ h => h.1)); have n3_ := Aside0.mk (KeepBut.trans (by repeat (first | (with_reducible first | exact HK.out | apply KeepBut.set_ | apply keep_drewN | apply keep_drew | apply keep_alloc | refine keep_far ?_ GW173.out _ | refine keep_far ?_ GW193.out _) | exact HK.out)) hk (.inl rfl)); have n4_ := Aside0.mk (hb); have n5_ := Aside0.mk (hi); clear BK173; clear BK193; clear HO208; clear HK; clear HB; clear HI0; have BK173 := n0_; have BK193 := n1_; have HO208 := n2_; have HK := n3_; have HB := n4_; have HI0 := n5_; clear n0_ n1_ n2_ n3_ n4_ n5_; (try clear hb); (try clear hb2); (try clear hk); (try clear hi); obtain ⟨Ao76, co76, eo76⟩ := Kd.R_slice HO208.out; subst eo76; have p211 : 0 ≤ (t209 : Int) := of_decide_eq_true (by first | (with_reducible assumption) | assumption); have q211 : t209 < (y206.length : Int) := of_decide_eq_true (by first | (with_reducible assumption) | assumption); obtain ⟨ad211, e211, hx211_0⟩ := Kd.at_int (Kd.R_reads' HO208.out).2.2 t209 p211 q211; cases e211; replace p211 := eq_true p211; replace q211 := eq_true q211; have hnb77 := NB193_173.out; have hnc77 := NB173_193.out; have hnb78 := NB193_0.out; have hnc78 := NB0_193.out; have hcz79_0 : w75.cell? ⟨gb193, 0, none⟩ = some (.int .i64 x194000_42) := (blk_cell BK193.out 0).trans rfl; have hcz79_1 : w75.cell? ⟨gb193, 1, none⟩ = some (.int .i64 x194001_42) := (blk_cell BK193.out 1).trans rfl; have hcz79_2 : w75.cell? ⟨gb193, 2, none⟩ = some (.int .i64 x194002_42) := (blk_cell BK193.out 2).trans rfl; have hcz79_3 : w75.cell? ⟨gb193, 3, none⟩ = some (.int .i64 x194003_42) := (blk_cell BK193.out 3).trans rfl; have hcz79_4 : w75.cell? ⟨gb193, 4, none⟩ = some (.int .i64 x194004_42) := (blk_cell BK193.out 4).trans rfl; have hcz79_5 : w75.cell? ⟨gb193, 5, none⟩ = some (.int .i64 x194005_42) := (blk_cell BK193.out 5).trans rfl; have hcz79_6 : w75.cell? ⟨gb193, 6, none⟩ = some (.int .i64 x194006_42) := (blk_cell BK193.out 6).trans rfl; have hcz79_7 : w75.cell? ⟨gb193, 7, none⟩ = some (.int .i64 x194007_42) := (blk_cell BK193.out 7).trans rfl; have hcz79_8 : w75.cell? ⟨gb193, 8, none⟩ = some (.int .i64 x194008_42) := (blk_cell BK193.out 8).trans rfl; have hfz79_0 := blk_frozen BK193.out 0; have hfz79_1 := blk_frozen BK193.out 1; have hfz79_2 := blk_frozen BK193.out 2; have hfz79_3 := blk_frozen BK193.out 3; have hfz79_4 := blk_frozen BK193.out 4; have hfz79_5 := blk_frozen BK193.out 5; have hfz79_6 := blk_frozen BK193.out 6; have hfz79_7 := blk_frozen BK193.out 7; have hfz79_8 := blk_frozen BK193.out 8; have hnb80 := NB173_0.out; have hnc80 := NB0_173.out; have hcz81_0 : w75.cell? ⟨gb173, 0, none⟩ = some (.int .i64 0) := (blk_cell BK173.out 0).trans rfl; have hcz81_1 : w75.cell? ⟨gb173, 1, none⟩ = some (.int .i64 0) := (blk_cell BK173.out 1).trans rfl; have hcz81_2 : w75.cell? ⟨gb173, 2, none⟩ = some (.int .i64 0) := (blk_cell BK173.out 2).trans rfl; have hcz81_3 : w75.cell? ⟨gb173, 3, none⟩ = some (.int .i64 0) := (blk_cell BK173.out 3).trans rfl; have hcz81_4 : w75.cell? ⟨gb173, 4, none⟩ = some (.int .i64 0) := (blk_cell BK173.out 4).trans rfl; have hcz81_5 : w75.cell? ⟨gb173, 5, none⟩ = some (.int .i64 0) := (blk_cell BK173.out 5).trans rfl; have hcz81_6 : w75.cell? ⟨gb173, 6, none⟩ = some (.int .i64 0) := (blk_cell BK173.out 6).trans rfl; have hcz81_7 : w75.cell? ⟨gb173, 7, none⟩ = some (.int .i64 0) := (blk_cell BK173.out 7).trans rfl; have hcz81_8 : w75.cell? ⟨gb173, 8, none⟩ = some (.int .i64 0) := (blk_cell BK173.out 8).trans rfl; have hfz81_0 := blk_frozen BK173.out 0; have hfz81_1 := blk_frozen BK173.out 1; have hfz81_2 := blk_frozen BK173.out 2; have hfz81_3 := blk_frozen BK173.out 3; have hfz81_4 := blk_frozen BK173.out 4; have hfz81_5 := blk_frozen BK173.out 5; have hfz81_6 := blk_frozen BK173.out 6; have hfz81_7 := blk_frozen BK173.out 7; have hfz81_8 := blk_frozen BK173.out 8))
                      refine bodyPost_ret (results_cell_row rfl _ _ gb173 85 #[.int .i64 (rd y206 t209), .int .i64 x194001_42, .int .i64 x194002_42, .int .i64 x194003_42, .int .i64 x194004_42, .int .i64 x194005_42, .int .i64 x194006_42, .int .i64 x194007_42, .int .i64 x194008_42] (0, 0) _ rfl (by (with_reducible repeat (first | refine blk_drewN ?_ _ | refine blk_drew ?_ | refine blk_alloc ?_ _)); refine blk_put (cs := #[.int .i64 (rd y206 t209), .int .i64 x194001_42, .int .i64 x194002_42, .int .i64 x194003_42, .int .i64 x194004_42, .int .i64 x194005_42, .int .i64 x194006_42, .int .i64 x194007_42, .int .i64 0]) ?_ 8 _ rfl; (with_reducible repeat (first | refine blk_drewN ?_ _ | refine blk_drew ?_ | refine blk_alloc ?_ _)); refine blk_put (cs := #[.int .i64 (rd y206 t209), .int .i64 x194001_42, .int .i64 x194002_42, .int .i64 x194003_42, .int .i64 x194004_42, .int .i64 x194005_42, .int .i64 x194006_42, .int .i64 0, .int .i64 0]) ?_ 7 _ rfl; (with_reducible repeat (first | refine blk_drewN ?_ _ | refine blk_drew ?_ | refine blk_alloc ?_ _)); refine blk_put (cs := #[.int .i64 (rd y206 t209), .int .i64 x194001_42, .int .i64 x194002_42, .int .i64 x194003_42, .int .i64 x194004_42, .int .i64 x194005_42, .int .i64 0, .int .i64 0, .int .i64 0]) ?_ 6 _ rfl; (with_reducible repeat (first | refine blk_drewN ?_ _ | refine blk_drew ?_ | refine blk_alloc ?_ _)); refine blk_put (cs := #[.int .i64 (rd y206 t209), .int .i64 x194001_42, .int .i64 x194002_42, .int .i64 x194003_42, .int .i64 x194004_42, .int .i64 0, .int .i64 0, .int .i64 0, .int .i64 0]) ?_ 5 _ rfl; (with_reducible repeat (first | refine blk_drewN ?_ _ | refine blk_drew ?_ | refine blk_alloc ?_ _)); refine blk_put (cs := #[.int .i64 (rd y206 t209), .int .i64 x194001_42, .int .i64 x194002_42, .int .i64 x194003_42, .int .i64 0, .int .i64 0, .int .i64 0, .int .i64 0, .int .i64 0]) ?_ 4 _ rfl; (with_reducible repeat (first | refine blk_drewN ?_ _ | refine blk_drew ?_ | refine blk_alloc ?_ _)); refine blk_put (cs := #[.int .i64 (rd y206 t209), .int .i64 x194001_42, .int .i64 x194002_42, .int .i64 0, .int .i64 0, .int .i64 0, .int .i64 0, .int .i64 0, .int .i64 0]) ?_ 3 _ rfl; (with_reducible repeat (first | refine blk_drewN ?_ _ | refine blk_drew ?_ | refine blk_alloc ?_ _)); refine blk_put (cs := #[.int .i64 (rd y206 t209), .int .i64 x194001_42, .int .i64 0, .int .i64 0, .int .i64 0, .int .i64 0, .int .i64 0, .int .i64 0, .int .i64 0]) ?_ 2 _ rfl; (with_reducible repeat (first | refine blk_drewN ?_ _ | refine blk_drew ?_ | refine blk_alloc ?_ _)); refine blk_put (cs := #[.int .i64 (rd y206 t209), .int .i64 0, .int .i64 0, .int .i64 0, .int .i64 0, .int .i64 0, .int .i64 0, .int .i64 0, .int .i64 0]) ?_ 1 _ rfl; (with_reducible repeat (first | refine blk_drewN ?_ _ | refine blk_drew ?_ | refine blk_alloc ?_ _)); refine blk_put (cs := #[.int .i64 0, .int .i64 0, .int .i64 0, .int .i64 0, .int .i64 0, .int .i64 0, .int .i64 0, .int .i64 0, .int .i64 0]) ?_ 0 _ rfl; (with_reducible repeat (first | refine blk_drewN ?_ _ | refine blk_drew ?_ | refine blk_alloc ?_ _)); refine blk_far ?_ NB173_193.out _; (with_reducible repeat (first | refine blk_drewN ?_ _ | refine blk_drew ?_ | refine blk_alloc ?_ _)); exact BK173.out) Try.underlying85 rfl (by kernel_rfl)) rfl ?_
                      exact ⟨by first | rfl | (simp [errW_none, errW_some] <;> rfl) | (simp [*, errW_none, errW_some] <;> rfl), by repeat (first | (with_reducible first | exact HI0.out | apply IsS115.alloc | apply IsS115.drewN | apply IsS115.drew | apply IsS115.set_1 | refine IsS115.far ?_ NB0_173.out _ | refine IsS115.far ?_ NB0_193.out _) | exact HI0.out), by repeat (first | (with_reducible first | exact HB.out | apply below_alloc | apply pw_below_drewN | apply below_drew1 | refine below_set ?_ (IsS115.ge HI0.out) | refine below_set ?_ GE173.out | refine below_set ?_ GE193.out) | exact HB.out), by repeat (first | (with_reducible first | exact HK.out | apply KeepBut.set_ | apply keep_drewN | apply keep_drew | apply keep_alloc | refine keep_far ?_ GW173.out _ | refine keep_far ?_ GW193.out _) | exact HK.out)⟩
                    · rw [if_neg c70] at H
                      exact absurd H (by simp)
                  · rw [if_neg c69] at H
                    exact absurd H (by simp)
                · rw [if_neg c67] at H
                  have c67b0 : (t204 == 0) = false := beq_eq_false_iff_ne.mpr c67
                  have c67b1 : (t204 != 0) = true := bne_iff_ne.mpr c67
                  by_cases c82 : t204 = 1
                  · rw [if_pos c82] at H
                    have c82b0 : (t204 == 1) = true := beq_iff_eq.mpr c82
                    have c82b1 : (t204 != 1) = false := bne_eq_false_iff_eq.mpr c82
                    clear c82
                    replace H := Option.bind_eq_some_iff.mp H
                    obtain ⟨⟨t212, t213, t214⟩, A830, H⟩ := H
                    replace H : (some (x194000_42, t212, t213, x194003_42, x194004_42, x194005_42, x194006_42, x194007_42, x194008_42, t214)) = some (r1, r2, r3, r4, r5, r6, r7, r8, r9, r10) := H
                    have A83 := Aside0.mk A830
                    clear A830
                    simp only [Option.some.injEq, Prod.mk.injEq] at H
                    obtain ⟨rfl, rfl, rfl, rfl, rfl, rfl, rfl, rfl, rfl, rfl⟩ := H
                    go_wp2_with (first | ((with_reducible refine gate_callee (f := 74) rfl ?_); refine goesL_ (some 44) rfl rfl Try.func74 (by kernel_rfl) rfl #[.pointer (some ⟨g, 0, none⟩), .int .i64 a1] rfl (by (try simp only [List.map_toArray, List.map_cons, List.map_nil]); first | done | rfl | (simp only [List.length_drop, List.length_take]; rfl)) ?_; (with_reducible refine (spec_l20Rd_pick.calls kj42 g s0_0 x1001_42 a1 t202 t203 w0 _ ?side1 ?side2 A58.out).mono ?_); (case side1 => repeat (first | (with_reducible first | exact HI0.out | apply IsS115.alloc | apply IsS115.drewN | apply IsS115.drew | apply IsS115.set_1 | refine IsS115.far ?_ NB0_173.out _ | refine IsS115.far ?_ NB0_193.out _) | exact HI0.out)); (case side2 => repeat (first | (with_reducible first | exact HB.out | apply below_alloc | apply pw_below_drewN | apply below_drew1 | refine below_set ?_ (IsS115.ge HI0.out) | refine below_set ?_ GE173.out | refine below_set ?_ GE193.out) | exact HB.out)); rintro e w84 ⟨rfl, hi, hb, hk⟩; refine ⟨_, rfl, ?_⟩; have n0_ := Aside0.mk (KeepBut.blk hk (g' := gb173) (o := .cells #[.int .i64 0, .int .i64 0, .int .i64 0, .int .i64 0, .int .i64 0, .int .i64 0, .int .i64 0, .int .i64 0, .int .i64 0] 85 (0, 0)) (by (with_reducible repeat (first | refine blk_drewN ?_ _ | refine blk_drew ?_ | refine blk_alloc ?_ _)); exact BK173.out) NB173_0.out (by simp)); have n1_ := Aside0.mk (KeepBut.blk hk (g' := gb193) (o := .cells #[.int .i64 x194000_42, .int .i64 x194001_42, .int .i64 x194002_42, .int .i64 x194003_42, .int .i64 x194004_42, .int .i64 x194005_42, .int .i64 x194006_42, .int .i64 x194007_42, .int .i64 x194008_42] 85 (0, 0)) (by (with_reducible repeat (first | refine blk_drewN ?_ _ | refine blk_drew ?_ | refine blk_alloc ?_ _)); exact BK193.out) NB193_0.out (by simp)); have n2_ := Aside0.mk (KeepBut.trans (by repeat (first | (with_reducible first | exact HK.out | apply KeepBut.set_ | apply keep_drewN | apply keep_drew | apply keep_alloc | refine keep_far ?_ GW173.out _ | refine keep_far ?_ GW193.out _) | exact HK.out)) hk (.inl rfl)); have n3_ := Aside0.mk (hb); have n4_ := Aside0.mk (hi); clear BK173; clear BK193; clear HK; clear HB; clear HI0; have BK173 := n0_; have BK193 := n1_; have HK := n2_; have HB := n3_; have HI0 := n4_; clear n0_ n1_ n2_ n3_ n4_; (try clear hb); (try clear hb2); (try clear hk); (try clear hi)) | ((with_reducible refine gate_callee (f := 74) rfl ?_); refine goesL_ (some 48) rfl rfl Try.func74 (by kernel_rfl) rfl #[.pointer (some ⟨g, 0, none⟩), .int .i64 5] rfl (by (try simp only [List.map_toArray, List.map_cons, List.map_nil]); first | done | rfl | (simp only [List.length_drop, List.length_take]; rfl)) ?_; (with_reducible refine (spec_l20Rd_pick.calls kj42 g s0_0 t203 5 t204 t205 w0 _ ?side1 ?side2 A66.out).mono ?_); (case side1 => repeat (first | (with_reducible first | exact HI0.out | apply IsS115.alloc | apply IsS115.drewN | apply IsS115.drew | apply IsS115.set_1 | refine IsS115.far ?_ NB0_173.out _ | refine IsS115.far ?_ NB0_193.out _) | exact HI0.out)); (case side2 => repeat (first | (with_reducible first | exact HB.out | apply below_alloc | apply pw_below_drewN | apply below_drew1 | refine below_set ?_ (IsS115.ge HI0.out) | refine below_set ?_ GE173.out | refine below_set ?_ GE193.out) | exact HB.out)); rintro e w85 ⟨rfl, hi, hb, hk⟩; refine ⟨_, rfl, ?_⟩; have n0_ := Aside0.mk (KeepBut.blk hk (g' := gb173) (o := .cells #[.int .i64 0, .int .i64 0, .int .i64 0, .int .i64 0, .int .i64 0, .int .i64 0, .int .i64 0, .int .i64 0, .int .i64 0] 85 (0, 0)) (by (with_reducible repeat (first | refine blk_drewN ?_ _ | refine blk_drew ?_ | refine blk_alloc ?_ _)); exact BK173.out) NB173_0.out (by simp)); have n1_ := Aside0.mk (KeepBut.blk hk (g' := gb193) (o := .cells #[.int .i64 x194000_42, .int .i64 x194001_42, .int .i64 x194002_42, .int .i64 x194003_42, .int .i64 x194004_42, .int .i64 x194005_42, .int .i64 x194006_42, .int .i64 x194007_42, .int .i64 x194008_42] 85 (0, 0)) (by (with_reducible repeat (first | refine blk_drewN ?_ _ | refine blk_drew ?_ | refine blk_alloc ?_ _)); exact BK193.out) NB193_0.out (by simp)); have n2_ := Aside0.mk (KeepBut.trans (by repeat (first | (with_reducible first | exact HK.out | apply KeepBut.set_ | apply keep_drewN | apply keep_drew | apply keep_alloc | refine keep_far ?_ GW173.out _ | refine keep_far ?_ GW193.out _) | exact HK.out)) hk (.inl rfl)); have n3_ := Aside0.mk (hb); have n4_ := Aside0.mk (hi); clear BK173; clear BK193; clear HK; clear HB; clear HI0; have BK173 := n0_; have BK193 := n1_; have HK := n2_; have HB := n3_; have HI0 := n4_; clear n0_ n1_ n2_ n3_ n4_; (try clear hb); (try clear hb2); (try clear hk); (try clear hi)) | ((with_reducible refine gate_callee (f := 92) rfl ?_); refine goesL_ (some 63) rfl rfl Try.func92 (by kernel_rfl) rfl #[.pointer (some ⟨g, 0, none⟩), .int .i64 1] rfl (by (try simp only [List.map_toArray, List.map_cons, List.map_nil]); first | done | rfl | (simp only [List.length_drop, List.length_take]; rfl)) ?_; (with_reducible refine (spec_l20Win.calls kj42 g s0_0 t205 1 t212 t213 t214 w0 _ ?side1 ?side2 A83.out).mono ?_); (case side1 => repeat (first | (with_reducible first | exact HI0.out | apply IsS115.alloc | apply IsS115.drewN | apply IsS115.drew | apply IsS115.set_1 | refine IsS115.far ?_ NB0_173.out _ | refine IsS115.far ?_ NB0_193.out _) | exact HI0.out)); (case side2 => repeat (first | (with_reducible first | exact HB.out | apply below_alloc | apply pw_below_drewN | apply below_drew1 | refine below_set ?_ (IsS115.ge HI0.out) | refine below_set ?_ GE173.out | refine below_set ?_ GE193.out) | exact HB.out)); rintro e w86 ⟨rfl, hi, hb, hk⟩; refine ⟨_, rfl, ?_⟩; have n0_ := Aside0.mk (KeepBut.blk hk (g' := gb173) (o := .cells #[.int .i64 0, .int .i64 0, .int .i64 0, .int .i64 0, .int .i64 0, .int .i64 0, .int .i64 0, .int .i64 0, .int .i64 0] 85 (0, 0)) (by (with_reducible repeat (first | refine blk_drewN ?_ _ | refine blk_drew ?_ | refine blk_alloc ?_ _)); exact BK173.out) NB173_0.out (by simp)); have n1_ := Aside0.mk (KeepBut.blk hk (g' := gb193) (o := .cells #[.int .i64 x194000_42, .int .i64 x194001_42, .int .i64 x194002_42, .int .i64 x194003_42, .int .i64 x194004_42, .int .i64 x194005_42, .int .i64 x194006_42, .int .i64 x194007_42, .int .i64 x194008_42] 85 (0, 0)) (by (with_reducible repeat (first | refine blk_drewN ?_ _ | refine blk_drew ?_ | refine blk_alloc ?_ _)); exact BK193.out) NB193_0.out (by simp)); have n2_ := Aside0.mk (KeepBut.trans (by repeat (first | (with_reducible first | exact HK.out | apply KeepBut.set_ | apply keep_drewN | apply keep_drew | apply keep_alloc | refine keep_far ?_ GW173.out _ | refine keep_far ?_ GW193.out _) | exact HK.out)) hk (.inl rfl)); have n3_ := Aside0.mk (hb); have n4_ := Aside0.mk (hi); clear BK173; clear BK193; clear HK; clear HB; clear HI0; have BK173 := n0_; have BK193 := n1_; have HK := n2_; have HB := n3_; have HI0 := n4_; clear n0_ n1_ n2_ n3_ n4_; (try clear hb); (try clear hb2); (try clear hk); (try clear hi); have hnb87 := NB193_173.out; have hnc87 := NB173_193.out; have hnb88 := NB193_0.out; have hnc88 := NB0_193.out; have hcz89_0 : w86.cell? ⟨gb193, 0, none⟩ = some (.int .i64 x194000_42) := (blk_cell BK193.out 0).trans rfl; have hcz89_1 : w86.cell? ⟨gb193, 1, none⟩ = some (.int .i64 x194001_42) := (blk_cell BK193.out 1).trans rfl; have hcz89_2 : w86.cell? ⟨gb193, 2, none⟩ = some (.int .i64 x194002_42) := (blk_cell BK193.out 2).trans rfl; have hcz89_3 : w86.cell? ⟨gb193, 3, none⟩ = some (.int .i64 x194003_42) := (blk_cell BK193.out 3).trans rfl; have hcz89_4 : w86.cell? ⟨gb193, 4, none⟩ = some (.int .i64 x194004_42) := (blk_cell BK193.out 4).trans rfl; have hcz89_5 : w86.cell? ⟨gb193, 5, none⟩ = some (.int .i64 x194005_42) := (blk_cell BK193.out 5).trans rfl; have hcz89_6 : w86.cell? ⟨gb193, 6, none⟩ = some (.int .i64 x194006_42) := (blk_cell BK193.out 6).trans rfl; have hcz89_7 : w86.cell? ⟨gb193, 7, none⟩ = some (.int .i64 x194007_42) := (blk_cell BK193.out 7).trans rfl; have hcz89_8 : w86.cell? ⟨gb193, 8, none⟩ = some (.int .i64 x194008_42) := (blk_cell BK193.out 8).trans rfl; have hfz89_0 := blk_frozen BK193.out 0; have hfz89_1 := blk_frozen BK193.out 1; have hfz89_2 := blk_frozen BK193.out 2; have hfz89_3 := blk_frozen BK193.out 3; have hfz89_4 := blk_frozen BK193.out 4; have hfz89_5 := blk_frozen BK193.out 5; have hfz89_6 := blk_frozen BK193.out 6; have hfz89_7 := blk_frozen BK193.out 7; have hfz89_8 := blk_frozen BK193.out 8; have hnb90 := NB173_0.out; have hnc90 := NB0_173.out; have hcz91_0 : w86.cell? ⟨gb173, 0, none⟩ = some (.int .i64 0) := (blk_cell BK173.out 0).trans rfl; have hcz91_1 : w86.cell? ⟨gb173, 1, none⟩ = some (.int .i64 0) := (blk_cell BK173.out 1).trans rfl; have hcz91_2 : w86.cell? ⟨gb173, 2, none⟩ = some (.int .i64 0) := (blk_cell BK173.out 2).trans rfl; have hcz91_3 : w86.cell? ⟨gb173, 3, none⟩ = some (.int .i64 0) := (blk_cell BK173.out 3).trans rfl; have hcz91_4 : w86.cell? ⟨gb173, 4, none⟩ = some (.int .i64 0) := (blk_cell BK173.out 4).trans rfl; have hcz91_5 : w86.cell? ⟨gb173, 5, none⟩ = some (.int .i64 0) := (blk_cell BK173.out 5).trans rfl; have hcz91_6 : w86.cell? ⟨gb173, 6, none⟩ = some (.int .i64 0) := (blk_cell BK173.out 6).trans rfl; have hcz91_7 : w86.cell? ⟨gb173, 7, none⟩ = some (.int .i64 0) := (blk_cell BK173.out 7).trans rfl; have hcz91_8 : w86.cell? ⟨gb173, 8, none⟩ = some (.int .i64 0) := (blk_cell BK173.out 8).trans rfl; have hfz91_0 := blk_frozen BK173.out 0; have hfz91_1 := blk_frozen BK173.out 1; have hfz91_2 := blk_frozen BK173.out 2; have hfz91_3 := blk_frozen BK173.out 3; have hfz91_4 := blk_frozen BK173.out 4; have hfz91_5 := blk_frozen BK173.out 5; have hfz91_6 := blk_frozen BK173.out 6; have hfz91_7 := blk_frozen BK173.out 7; have hfz91_8 := blk_frozen BK173.out 8))
                    refine bodyPost_ret (results_cell_row rfl _ _ gb173 85 #[.int .i64 x194000_42, .int .i64 t212, .int .i64 t213, .int .i64 x194003_42, .int .i64 x194004_42, .int .i64 x194005_42, .int .i64 x194006_42, .int .i64 x194007_42, .int .i64 x194008_42] (0, 0) _ rfl (by (with_reducible repeat (first | refine blk_drewN ?_ _ | refine blk_drew ?_ | refine blk_alloc ?_ _)); refine blk_put (cs := #[.int .i64 x194000_42, .int .i64 t212, .int .i64 t213, .int .i64 x194003_42, .int .i64 x194004_42, .int .i64 x194005_42, .int .i64 x194006_42, .int .i64 x194007_42, .int .i64 0]) ?_ 8 _ rfl; (with_reducible repeat (first | refine blk_drewN ?_ _ | refine blk_drew ?_ | refine blk_alloc ?_ _)); refine blk_put (cs := #[.int .i64 x194000_42, .int .i64 t212, .int .i64 t213, .int .i64 x194003_42, .int .i64 x194004_42, .int .i64 x194005_42, .int .i64 x194006_42, .int .i64 0, .int .i64 0]) ?_ 7 _ rfl; (with_reducible repeat (first | refine blk_drewN ?_ _ | refine blk_drew ?_ | refine blk_alloc ?_ _)); refine blk_put (cs := #[.int .i64 x194000_42, .int .i64 t212, .int .i64 t213, .int .i64 x194003_42, .int .i64 x194004_42, .int .i64 x194005_42, .int .i64 0, .int .i64 0, .int .i64 0]) ?_ 6 _ rfl; (with_reducible repeat (first | refine blk_drewN ?_ _ | refine blk_drew ?_ | refine blk_alloc ?_ _)); refine blk_put (cs := #[.int .i64 x194000_42, .int .i64 t212, .int .i64 t213, .int .i64 x194003_42, .int .i64 x194004_42, .int .i64 0, .int .i64 0, .int .i64 0, .int .i64 0]) ?_ 5 _ rfl; (with_reducible repeat (first | refine blk_drewN ?_ _ | refine blk_drew ?_ | refine blk_alloc ?_ _)); refine blk_put (cs := #[.int .i64 x194000_42, .int .i64 t212, .int .i64 t213, .int .i64 x194003_42, .int .i64 0, .int .i64 0, .int .i64 0, .int .i64 0, .int .i64 0]) ?_ 4 _ rfl; (with_reducible repeat (first | refine blk_drewN ?_ _ | refine blk_drew ?_ | refine blk_alloc ?_ _)); refine blk_put (cs := #[.int .i64 x194000_42, .int .i64 t212, .int .i64 t213, .int .i64 0, .int .i64 0, .int .i64 0, .int .i64 0, .int .i64 0, .int .i64 0]) ?_ 3 _ rfl; (with_reducible repeat (first | refine blk_drewN ?_ _ | refine blk_drew ?_ | refine blk_alloc ?_ _)); refine blk_put (cs := #[.int .i64 x194000_42, .int .i64 t212, .int .i64 0, .int .i64 0, .int .i64 0, .int .i64 0, .int .i64 0, .int .i64 0, .int .i64 0]) ?_ 2 _ rfl; (with_reducible repeat (first | refine blk_drewN ?_ _ | refine blk_drew ?_ | refine blk_alloc ?_ _)); refine blk_put (cs := #[.int .i64 x194000_42, .int .i64 0, .int .i64 0, .int .i64 0, .int .i64 0, .int .i64 0, .int .i64 0, .int .i64 0, .int .i64 0]) ?_ 1 _ rfl; (with_reducible repeat (first | refine blk_drewN ?_ _ | refine blk_drew ?_ | refine blk_alloc ?_ _)); refine blk_put (cs := #[.int .i64 0, .int .i64 0, .int .i64 0, .int .i64 0, .int .i64 0, .int .i64 0, .int .i64 0, .int .i64 0, .int .i64 0]) ?_ 0 _ rfl; (with_reducible repeat (first | refine blk_drewN ?_ _ | refine blk_drew ?_ | refine blk_alloc ?_ _)); refine blk_far ?_ NB173_193.out _; (with_reducible repeat (first | refine blk_drewN ?_ _ | refine blk_drew ?_ | refine blk_alloc ?_ _)); refine blk_far ?_ NB173_193.out _; (with_reducible repeat (first | refine blk_drewN ?_ _ | refine blk_drew ?_ | refine blk_alloc ?_ _)); exact BK173.out) Try.underlying85 rfl (by kernel_rfl)) rfl ?_
                    exact ⟨by first | rfl | (simp [errW_none, errW_some] <;> rfl) | (simp [*, errW_none, errW_some] <;> rfl), by repeat (first | (with_reducible first | exact HI0.out | apply IsS115.alloc | apply IsS115.drewN | apply IsS115.drew | apply IsS115.set_1 | refine IsS115.far ?_ NB0_173.out _ | refine IsS115.far ?_ NB0_193.out _) | exact HI0.out), by repeat (first | (with_reducible first | exact HB.out | apply below_alloc | apply pw_below_drewN | apply below_drew1 | refine below_set ?_ (IsS115.ge HI0.out) | refine below_set ?_ GE173.out | refine below_set ?_ GE193.out) | exact HB.out), by repeat (first | (with_reducible first | exact HK.out | apply KeepBut.set_ | apply keep_drewN | apply keep_drew | apply keep_alloc | refine keep_far ?_ GW173.out _ | refine keep_far ?_ GW193.out _) | exact HK.out)⟩
                  · rw [if_neg c82] at H
                    have c82b0 : (t204 == 1) = false := beq_eq_false_iff_ne.mpr c82
                    have c82b1 : (t204 != 1) = true := bne_iff_ne.mpr c82
                    by_cases c92 : t204 = 2
                    · rw [if_pos c92] at H
                      have c92b0 : (t204 == 2) = true := beq_iff_eq.mpr c92
                      have c92b1 : (t204 != 2) = false := bne_eq_false_iff_eq.mpr c92
                      clear c92
                      obtain ⟨y215, hy215⟩ : ∃ y_ : List Int, y_ = (([(-1), 0, 1, 1500, 1501] : List Int)) := ⟨_, rfl⟩
                      replace H : ((spec_l20Rd_pick.f kj42 s0_0 t205 5).bind fun bt218 => (if 0 ≤ bt218.1 then (if bt218.1 < (y215.length : Int) then (some (x194000_42, x194001_42, x194002_42, rd y215 bt218.1, x194004_42, x194005_42, x194006_42, x194007_42, x194008_42, bt218.2)) else (none)) else (none))) = some (r1, r2, r3, r4, r5, r6, r7, r8, r9, r10) := by first | (rw [hy215]; with_reducible exact H) | (have H2_ := (Option.bind_some _ _).symm.trans H; rw [hy215]; with_reducible exact H2_) | (have H2_ := (Option.bind_some _ _).symm.trans H; with_reducible exact H2_) | with_reducible exact H | (rw [hy215]; exact H) | exact H
                      have Ny215 := Aside0.mk hy215
                      clear hy215
                      replace H := Option.bind_eq_some_iff.mp H
                      obtain ⟨⟨t218, t219⟩, A930, H⟩ := H
                      replace H : (if 0 ≤ t218 then (if t218 < (y215.length : Int) then (some (x194000_42, x194001_42, x194002_42, rd y215 t218, x194004_42, x194005_42, x194006_42, x194007_42, x194008_42, t219)) else (none)) else (none)) = some (r1, r2, r3, r4, r5, r6, r7, r8, r9, r10) := H
                      have A93 := Aside0.mk A930
                      clear A930
                      by_cases c94 : 0 ≤ t218
                      · rw [if_pos c94] at H
                        have c94b0 : decide (0 ≤ t218) = true := decide_eq_true c94
                        clear c94
                        by_cases c95 : t218 < (y215.length : Int)
                        · rw [if_pos c95] at H
                          have c95b0 : decide (t218 < (y215.length : Int)) = true := decide_eq_true c95
                          clear c95
                          simp only [Option.some.injEq, Prod.mk.injEq] at H
                          obtain ⟨rfl, rfl, rfl, rfl, rfl, rfl, rfl, rfl, rfl, rfl⟩ := H
                          go_wp2_with (first | ((with_reducible refine gate_callee (f := 74) rfl ?_); refine goesL_ (some 44) rfl rfl Try.func74 (by kernel_rfl) rfl #[.pointer (some ⟨g, 0, none⟩), .int .i64 a1] rfl (by (try simp only [List.map_toArray, List.map_cons, List.map_nil]); first | done | rfl | (simp only [List.length_drop, List.length_take]; rfl)) ?_; (with_reducible refine (spec_l20Rd_pick.calls kj42 g s0_0 x1001_42 a1 t202 t203 w0 _ ?side1 ?side2 A58.out).mono ?_); (case side1 => repeat (first | (with_reducible first | exact HI0.out | apply IsS115.alloc | apply IsS115.drewN | apply IsS115.drew | apply IsS115.set_1 | refine IsS115.far ?_ NB0_173.out _ | refine IsS115.far ?_ NB0_193.out _) | exact HI0.out)); (case side2 => repeat (first | (with_reducible first | exact HB.out | apply below_alloc | apply pw_below_drewN | apply below_drew1 | refine below_set ?_ (IsS115.ge HI0.out) | refine below_set ?_ GE173.out | refine below_set ?_ GE193.out) | exact HB.out)); rintro e w96 ⟨rfl, hi, hb, hk⟩; refine ⟨_, rfl, ?_⟩; have n0_ := Aside0.mk (KeepBut.blk hk (g' := gb173) (o := .cells #[.int .i64 0, .int .i64 0, .int .i64 0, .int .i64 0, .int .i64 0, .int .i64 0, .int .i64 0, .int .i64 0, .int .i64 0] 85 (0, 0)) (by (with_reducible repeat (first | refine blk_drewN ?_ _ | refine blk_drew ?_ | refine blk_alloc ?_ _)); exact BK173.out) NB173_0.out (by simp)); have n1_ := Aside0.mk (KeepBut.blk hk (g' := gb193) (o := .cells #[.int .i64 x194000_42, .int .i64 x194001_42, .int .i64 x194002_42, .int .i64 x194003_42, .int .i64 x194004_42, .int .i64 x194005_42, .int .i64 x194006_42, .int .i64 x194007_42, .int .i64 x194008_42] 85 (0, 0)) (by (with_reducible repeat (first | refine blk_drewN ?_ _ | refine blk_drew ?_ | refine blk_alloc ?_ _)); exact BK193.out) NB193_0.out (by simp)); have n2_ := Aside0.mk (KeepBut.trans (by repeat (first | (with_reducible first | exact HK.out | apply KeepBut.set_ | apply keep_drewN | apply keep_drew | apply keep_alloc | refine keep_far ?_ GW173.out _ | refine keep_far ?_ GW193.out _) | exact HK.out)) hk (.inl rfl)); have n3_ := Aside0.mk (hb); have n4_ := Aside0.mk (hi); clear BK173; clear BK193; clear HK; clear HB; clear HI0; have BK173 := n0_; have BK193 := n1_; have HK := n2_; have HB := n3_; have HI0 := n4_; clear n0_ n1_ n2_ n3_ n4_; (try clear hb); (try clear hb2); (try clear hk); (try clear hi)) | ((with_reducible refine gate_callee (f := 74) rfl ?_); refine goesL_ (some 48) rfl rfl Try.func74 (by kernel_rfl) rfl #[.pointer (some ⟨g, 0, none⟩), .int .i64 5] rfl (by (try simp only [List.map_toArray, List.map_cons, List.map_nil]); first | done | rfl | (simp only [List.length_drop, List.length_take]; rfl)) ?_; (with_reducible refine (spec_l20Rd_pick.calls kj42 g s0_0 t203 5 t204 t205 w0 _ ?side1 ?side2 A66.out).mono ?_); (case side1 => repeat (first | (with_reducible first | exact HI0.out | apply IsS115.alloc | apply IsS115.drewN | apply IsS115.drew | apply IsS115.set_1 | refine IsS115.far ?_ NB0_173.out _ | refine IsS115.far ?_ NB0_193.out _) | exact HI0.out)); (case side2 => repeat (first | (with_reducible first | exact HB.out | apply below_alloc | apply pw_below_drewN | apply below_drew1 | refine below_set ?_ (IsS115.ge HI0.out) | refine below_set ?_ GE173.out | refine below_set ?_ GE193.out) | exact HB.out)); rintro e w97 ⟨rfl, hi, hb, hk⟩; refine ⟨_, rfl, ?_⟩; have n0_ := Aside0.mk (KeepBut.blk hk (g' := gb173) (o := .cells #[.int .i64 0, .int .i64 0, .int .i64 0, .int .i64 0, .int .i64 0, .int .i64 0, .int .i64 0, .int .i64 0, .int .i64 0] 85 (0, 0)) (by (with_reducible repeat (first | refine blk_drewN ?_ _ | refine blk_drew ?_ | refine blk_alloc ?_ _)); exact BK173.out) NB173_0.out (by simp)); have n1_ := Aside0.mk (KeepBut.blk hk (g' := gb193) (o := .cells #[.int .i64 x194000_42, .int .i64 x194001_42, .int .i64 x194002_42, .int .i64 x194003_42, .int .i64 x194004_42, .int .i64 x194005_42, .int .i64 x194006_42, .int .i64 x194007_42, .int .i64 x194008_42] 85 (0, 0)) (by (with_reducible repeat (first | refine blk_drewN ?_ _ | refine blk_drew ?_ | refine blk_alloc ?_ _)); exact BK193.out) NB193_0.out (by simp)); have n2_ := Aside0.mk (KeepBut.trans (by repeat (first | (with_reducible first | exact HK.out | apply KeepBut.set_ | apply keep_drewN | apply keep_drew | apply keep_alloc | refine keep_far ?_ GW173.out _ | refine keep_far ?_ GW193.out _) | exact HK.out)) hk (.inl rfl)); have n3_ := Aside0.mk (hb); have n4_ := Aside0.mk (hi); clear BK173; clear BK193; clear HK; clear HB; clear HI0; have BK173 := n0_; have BK193 := n1_; have HK := n2_; have HB := n3_; have HI0 := n4_; clear n0_ n1_ n2_ n3_ n4_; (try clear hb); (try clear hb2); (try clear hk); (try clear hi)) | ((with_reducible refine gate_dst (N := 67) rfl ?_); refine Kd.R_lit (Kd.int .i64) _ 3 ?hg (N := 67) ?hd (xs := ([(-1), 0, 1, 1500, 1501] : List Int)) (inner := [.int .i64 (-1), .int .i64 0, .int .i64 1, .int .i64 1500, .int .i64 1501]) (ok := fun _ => True) (okp := fun _ => True) ?hr ?hp (fun _ hk => hk) trivial (Below.refl _ _) (Nat.le_refl _) (by simp) ?_; (case hd => rfl); (case hg => rfl); (case hr => first | (go_simp; done) | (go_simp; rfl)); (case hp => exact (Reps.one (show Kd.M (Kd.int .i64) _ _ _ (-1) [.int .i64 (-1)] from rfl) (Reps.one (show Kd.M (Kd.int .i64) _ _ _ 0 [.int .i64 0] from rfl) (Reps.one (show Kd.M (Kd.int .i64) _ _ _ 1 [.int .i64 1] from rfl) (Reps.one (show Kd.M (Kd.int .i64) _ _ _ 1500 [.int .i64 1500] from rfl) (Reps.one (show Kd.M (Kd.int .i64) _ _ _ 1501 [.int .i64 1501] from rfl) (Reps.none _ _))))))); intro v216 w98 ho99 hb hg_ hnew_; clear hg_ hnew_; (first | rw [← Ny215.out] at ho99 | (simp only [Int.reduceToNat] at ho99; rw [← Ny215.out] at ho99)); have n0_ := Aside0.mk (Kd.R_lower ho99 (keep_size (w := w) (g := g) (row := none) (by repeat (first | (with_reducible first | exact HK.out | apply KeepBut.set_ | apply keep_drewN | apply keep_drew | apply keep_alloc | refine keep_far ?_ GW173.out _ | refine keep_far ?_ GW193.out _) | exact HK.out)))); have n1_ := Aside0.mk (blk_below (g := gb173) (o := .cells #[.int .i64 0, .int .i64 0, .int .i64 0, .int .i64 0, .int .i64 0, .int .i64 0, .int .i64 0, .int .i64 0, .int .i64 0] 85 (0, 0)) (by (with_reducible repeat (first | refine blk_drewN ?_ _ | refine blk_drew ?_ | refine blk_alloc ?_ _)); exact BK173.out) hb); have n2_ := Aside0.mk (blk_below (g := gb193) (o := .cells #[.int .i64 x194000_42, .int .i64 x194001_42, .int .i64 x194002_42, .int .i64 x194003_42, .int .i64 x194004_42, .int .i64 x194005_42, .int .i64 x194006_42, .int .i64 x194007_42, .int .i64 x194008_42] 85 (0, 0)) (by (with_reducible repeat (first | refine blk_drewN ?_ _ | refine blk_drew ?_ | refine blk_alloc ?_ _)); exact BK193.out) hb); have n3_ := Aside0.mk (IsS115.below (by repeat (first | (with_reducible first | exact HI0.out | apply IsS115.alloc | apply IsS115.drewN | apply IsS115.drew | apply IsS115.set_1 | refine IsS115.far ?_ NB0_173.out _ | refine IsS115.far ?_ NB0_193.out _) | exact HI0.out)) hb); have n4_ := Aside0.mk (KeepBut.trans (by repeat (first | (with_reducible first | exact HK.out | apply KeepBut.set_ | apply keep_drewN | apply keep_drew | apply keep_alloc | refine keep_far ?_ GW173.out _ | refine keep_far ?_ GW193.out _) | exact HK.out)) (KeepBut.of_below hb g none) (.inl rfl)); have n5_ := Aside0.mk (below_step (by repeat (first | (with_reducible first | exact HB.out | apply below_alloc | apply pw_below_drewN | apply below_drew1 | refine below_set ?_ (IsS115.ge HI0.out) | refine below_set ?_ GE173.out | refine below_set ?_ GE193.out) | exact HB.out)) hb); clear BK173; clear BK193; clear HI0; clear HK; clear HB; have HO217 := n0_; have BK173 := n1_; have BK193 := n2_; have HI0 := n3_; have HK := n4_; have HB := n5_; clear n0_ n1_ n2_ n3_ n4_ n5_; clear hb ho99) | ((with_reducible refine gate_callee (f := 74) rfl ?_); refine goesL_ (some 69) rfl rfl Try.func74 (by kernel_rfl) rfl #[.pointer (some ⟨g, 0, none⟩), .int .i64 5] rfl (by (try simp only [List.map_toArray, List.map_cons, List.map_nil]); first | done | rfl | (simp only [List.length_drop, List.length_take]; rfl)) ?_; (with_reducible refine (spec_l20Rd_pick.calls kj42 g s0_0 t205 5 t218 t219 w0 _ ?side1 ?side2 A93.out).mono ?_); (case side1 => repeat (first | (with_reducible first | exact HI0.out | apply IsS115.alloc | apply IsS115.drewN | apply IsS115.drew | apply IsS115.set_1 | refine IsS115.far ?_ NB0_173.out _ | refine IsS115.far ?_ NB0_193.out _) | exact HI0.out)); (case side2 => repeat (first | (with_reducible first | exact HB.out | apply below_alloc | apply pw_below_drewN | apply below_drew1 | refine below_set ?_ (IsS115.ge HI0.out) | refine below_set ?_ GE173.out | refine below_set ?_ GE193.out) | exact HB.out)); rintro e w100 ⟨rfl, hi, hb, hk⟩; refine ⟨_, rfl, ?_⟩; have n0_ := Aside0.mk (KeepBut.blk hk (g' := gb173) (o := .cells #[.int .i64 0, .int .i64 0, .int .i64 0, .int .i64 0, .int .i64 0, .int .i64 0, .int .i64 0, .int .i64 0, .int .i64 0] 85 (0, 0)) (by (with_reducible repeat (first | refine blk_drewN ?_ _ | refine blk_drew ?_ | refine blk_alloc ?_ _)); exact BK173.out) NB173_0.out (by simp)); have n1_ := Aside0.mk (KeepBut.blk hk (g' := gb193) (o := .cells #[.int .i64 x194000_42, .int .i64 x194001_42, .int .i64 x194002_42, .int .i64 x194003_42, .int .i64 x194004_42, .int .i64 x194005_42, .int .i64 x194006_42, .int .i64 x194007_42, .int .i64 x194008_42] 85 (0, 0)) (by (with_reducible repeat (first | refine blk_drewN ?_ _ | refine blk_drew ?_ | refine blk_alloc ?_ _)); exact BK193.out) NB193_0.out (by simp)); have n2_ := Aside0.mk (Kd.R_mono (Kd.R_keep (IsS115.apart (show IsS115 w0 _ g s0_0 t205 from by repeat (first | (with_reducible first | exact HI0.out | apply IsS115.alloc | apply IsS115.drewN | apply IsS115.drew | apply IsS115.set_1 | refine IsS115.far ?_ NB0_173.out _ | refine IsS115.far ?_ NB0_193.out _) | exact HI0.out)) (by (with_reducible repeat (first | apply Kd.R_alloc | apply Kd.R_drewN | apply Kd.R_drew)); exact HO217.out) (by decide)) hk (fun _ h => h.2)) (fun _ h => h.1)); have n3_ := Aside0.mk (KeepBut.trans (by repeat (first | (with_reducible first | exact HK.out | apply KeepBut.set_ | apply keep_drewN | apply keep_drew | apply keep_alloc | refine keep_far ?_ GW173.out _ | refine keep_far ?_ GW193.out _) | exact HK.out)) hk (.inl rfl)); have n4_ := Aside0.mk (hb); have n5_ := Aside0.mk (hi); clear BK173; clear BK193; clear HO217; clear HK; clear HB; clear HI0; have BK173 := n0_; have BK193 := n1_; have HO217 := n2_; have HK := n3_; have HB := n4_; have HI0 := n5_; clear n0_ n1_ n2_ n3_ n4_ n5_; (try clear hb); (try clear hb2); (try clear hk); (try clear hi); obtain ⟨Ao101, co101, eo101⟩ := Kd.R_slice HO217.out; subst eo101; have p220 : 0 ≤ (t218 : Int) := of_decide_eq_true (by first | (with_reducible assumption) | assumption); have q220 : t218 < (y215.length : Int) := of_decide_eq_true (by first | (with_reducible assumption) | assumption); obtain ⟨ad220, e220, hx220_0⟩ := Kd.at_int (Kd.R_reads' HO217.out).2.2 t218 p220 q220; cases e220; replace p220 := eq_true p220; replace q220 := eq_true q220; have hnb102 := NB193_173.out; have hnc102 := NB173_193.out; have hnb103 := NB193_0.out; have hnc103 := NB0_193.out; have hcz104_0 : w100.cell? ⟨gb193, 0, none⟩ = some (.int .i64 x194000_42) := (blk_cell BK193.out 0).trans rfl; have hcz104_1 : w100.cell? ⟨gb193, 1, none⟩ = some (.int .i64 x194001_42) := (blk_cell BK193.out 1).trans rfl; have hcz104_2 : w100.cell? ⟨gb193, 2, none⟩ = some (.int .i64 x194002_42) := (blk_cell BK193.out 2).trans rfl; have hcz104_3 : w100.cell? ⟨gb193, 3, none⟩ = some (.int .i64 x194003_42) := (blk_cell BK193.out 3).trans rfl; have hcz104_4 : w100.cell? ⟨gb193, 4, none⟩ = some (.int .i64 x194004_42) := (blk_cell BK193.out 4).trans rfl; have hcz104_5 : w100.cell? ⟨gb193, 5, none⟩ = some (.int .i64 x194005_42) := (blk_cell BK193.out 5).trans rfl; have hcz104_6 : w100.cell? ⟨gb193, 6, none⟩ = some (.int .i64 x194006_42) := (blk_cell BK193.out 6).trans rfl; have hcz104_7 : w100.cell? ⟨gb193, 7, none⟩ = some (.int .i64 x194007_42) := (blk_cell BK193.out 7).trans rfl; have hcz104_8 : w100.cell? ⟨gb193, 8, none⟩ = some (.int .i64 x194008_42) := (blk_cell BK193.out 8).trans rfl; have hfz104_0 := blk_frozen BK193.out 0; have hfz104_1 := blk_frozen BK193.out 1; have hfz104_2 := blk_frozen BK193.out 2; have hfz104_3 := blk_frozen BK193.out 3; have hfz104_4 := blk_frozen BK193.out 4; have hfz104_5 := blk_frozen BK193.out 5; have hfz104_6 := blk_frozen BK193.out 6; have hfz104_7 := blk_frozen BK193.out 7; have hfz104_8 := blk_frozen BK193.out 8; have hnb105 := NB173_0.out; have hnc105 := NB0_173.out; have hcz106_0 : w100.cell? ⟨gb173, 0, none⟩ = some (.int .i64 0) := (blk_cell BK173.out 0).trans rfl; have hcz106_1 : w100.cell? ⟨gb173, 1, none⟩ = some (.int .i64 0) := (blk_cell BK173.out 1).trans rfl; have hcz106_2 : w100.cell? ⟨gb173, 2, none⟩ = some (.int .i64 0) := (blk_cell BK173.out 2).trans rfl; have hcz106_3 : w100.cell? ⟨gb173, 3, none⟩ = some (.int .i64 0) := (blk_cell BK173.out 3).trans rfl; have hcz106_4 : w100.cell? ⟨gb173, 4, none⟩ = some (.int .i64 0) := (blk_cell BK173.out 4).trans rfl; have hcz106_5 : w100.cell? ⟨gb173, 5, none⟩ = some (.int .i64 0) := (blk_cell BK173.out 5).trans rfl; have hcz106_6 : w100.cell? ⟨gb173, 6, none⟩ = some (.int .i64 0) := (blk_cell BK173.out 6).trans rfl; have hcz106_7 : w100.cell? ⟨gb173, 7, none⟩ = some (.int .i64 0) := (blk_cell BK173.out 7).trans rfl; have hcz106_8 : w100.cell? ⟨gb173, 8, none⟩ = some (.int .i64 0) := (blk_cell BK173.out 8).trans rfl; have hfz106_0 := blk_frozen BK173.out 0; have hfz106_1 := blk_frozen BK173.out 1; have hfz106_2 := blk_frozen BK173.out 2; have hfz106_3 := blk_frozen BK173.out 3; have hfz106_4 := blk_frozen BK173.out 4; have hfz106_5 := blk_frozen BK173.out 5; have hfz106_6 := blk_frozen BK173.out 6; have hfz106_7 := blk_frozen BK173.out 7; have hfz106_8 := blk_frozen BK173.out 8))
                          refine bodyPost_ret (results_cell_row rfl _ _ gb173 85 #[.int .i64 x194000_42, .int .i64 x194001_42, .int .i64 x194002_42, .int .i64 (rd y215 t218), .int .i64 x194004_42, .int .i64 x194005_42, .int .i64 x194006_42, .int .i64 x194007_42, .int .i64 x194008_42] (0, 0) _ rfl (by (with_reducible repeat (first | refine blk_drewN ?_ _ | refine blk_drew ?_ | refine blk_alloc ?_ _)); refine blk_put (cs := #[.int .i64 x194000_42, .int .i64 x194001_42, .int .i64 x194002_42, .int .i64 (rd y215 t218), .int .i64 x194004_42, .int .i64 x194005_42, .int .i64 x194006_42, .int .i64 x194007_42, .int .i64 0]) ?_ 8 _ rfl; (with_reducible repeat (first | refine blk_drewN ?_ _ | refine blk_drew ?_ | refine blk_alloc ?_ _)); refine blk_put (cs := #[.int .i64 x194000_42, .int .i64 x194001_42, .int .i64 x194002_42, .int .i64 (rd y215 t218), .int .i64 x194004_42, .int .i64 x194005_42, .int .i64 x194006_42, .int .i64 0, .int .i64 0]) ?_ 7 _ rfl; (with_reducible repeat (first | refine blk_drewN ?_ _ | refine blk_drew ?_ | refine blk_alloc ?_ _)); refine blk_put (cs := #[.int .i64 x194000_42, .int .i64 x194001_42, .int .i64 x194002_42, .int .i64 (rd y215 t218), .int .i64 x194004_42, .int .i64 x194005_42, .int .i64 0, .int .i64 0, .int .i64 0]) ?_ 6 _ rfl; (with_reducible repeat (first | refine blk_drewN ?_ _ | refine blk_drew ?_ | refine blk_alloc ?_ _)); refine blk_put (cs := #[.int .i64 x194000_42, .int .i64 x194001_42, .int .i64 x194002_42, .int .i64 (rd y215 t218), .int .i64 x194004_42, .int .i64 0, .int .i64 0, .int .i64 0, .int .i64 0]) ?_ 5 _ rfl; (with_reducible repeat (first | refine blk_drewN ?_ _ | refine blk_drew ?_ | refine blk_alloc ?_ _)); refine blk_put (cs := #[.int .i64 x194000_42, .int .i64 x194001_42, .int .i64 x194002_42, .int .i64 (rd y215 t218), .int .i64 0, .int .i64 0, .int .i64 0, .int .i64 0, .int .i64 0]) ?_ 4 _ rfl; (with_reducible repeat (first | refine blk_drewN ?_ _ | refine blk_drew ?_ | refine blk_alloc ?_ _)); refine blk_put (cs := #[.int .i64 x194000_42, .int .i64 x194001_42, .int .i64 x194002_42, .int .i64 0, .int .i64 0, .int .i64 0, .int .i64 0, .int .i64 0, .int .i64 0]) ?_ 3 _ rfl; (with_reducible repeat (first | refine blk_drewN ?_ _ | refine blk_drew ?_ | refine blk_alloc ?_ _)); refine blk_put (cs := #[.int .i64 x194000_42, .int .i64 x194001_42, .int .i64 0, .int .i64 0, .int .i64 0, .int .i64 0, .int .i64 0, .int .i64 0, .int .i64 0]) ?_ 2 _ rfl; (with_reducible repeat (first | refine blk_drewN ?_ _ | refine blk_drew ?_ | refine blk_alloc ?_ _)); refine blk_put (cs := #[.int .i64 x194000_42, .int .i64 0, .int .i64 0, .int .i64 0, .int .i64 0, .int .i64 0, .int .i64 0, .int .i64 0, .int .i64 0]) ?_ 1 _ rfl; (with_reducible repeat (first | refine blk_drewN ?_ _ | refine blk_drew ?_ | refine blk_alloc ?_ _)); refine blk_put (cs := #[.int .i64 0, .int .i64 0, .int .i64 0, .int .i64 0, .int .i64 0, .int .i64 0, .int .i64 0, .int .i64 0, .int .i64 0]) ?_ 0 _ rfl; (with_reducible repeat (first | refine blk_drewN ?_ _ | refine blk_drew ?_ | refine blk_alloc ?_ _)); refine blk_far ?_ NB173_193.out _; (with_reducible repeat (first | refine blk_drewN ?_ _ | refine blk_drew ?_ | refine blk_alloc ?_ _)); exact BK173.out) Try.underlying85 rfl (by kernel_rfl)) rfl ?_
                          exact ⟨by first | rfl | (simp [errW_none, errW_some] <;> rfl) | (simp [*, errW_none, errW_some] <;> rfl), by repeat (first | (with_reducible first | exact HI0.out | apply IsS115.alloc | apply IsS115.drewN | apply IsS115.drew | apply IsS115.set_1 | refine IsS115.far ?_ NB0_173.out _ | refine IsS115.far ?_ NB0_193.out _) | exact HI0.out), by repeat (first | (with_reducible first | exact HB.out | apply below_alloc | apply pw_below_drewN | apply below_drew1 | refine below_set ?_ (IsS115.ge HI0.out) | refine below_set ?_ GE173.out | refine below_set ?_ GE193.out) | exact HB.out), by repeat (first | (with_reducible first | exact HK.out | apply KeepBut.set_ | apply keep_drewN | apply keep_drew | apply keep_alloc | refine keep_far ?_ GW173.out _ | refine keep_far ?_ GW193.out _) | exact HK.out)⟩
                        · rw [if_neg c95] at H
                          exact absurd H (by simp)
                      · rw [if_neg c94] at H
                        exact absurd H (by simp)
                    · rw [if_neg c92] at H
                      have c92b0 : (t204 == 2) = false := beq_eq_false_iff_ne.mpr c92
                      have c92b1 : (t204 != 2) = true := bne_iff_ne.mpr c92
                      by_cases c107 : t204 = 3
                      · rw [if_pos c107] at H
                        have c107b0 : (t204 == 3) = true := beq_iff_eq.mpr c107
                        have c107b1 : (t204 != 3) = false := bne_eq_false_iff_eq.mpr c107
                        clear c107
                        replace H := Option.bind_eq_some_iff.mp H
                        obtain ⟨⟨t221, t222⟩, A1080, H⟩ := H
                        replace H : (some (x194000_42, x194001_42, x194002_42, x194003_42, t221, x194005_42, x194006_42, x194007_42, x194008_42, t222)) = some (r1, r2, r3, r4, r5, r6, r7, r8, r9, r10) := H
                        have A108 := Aside0.mk A1080
                        clear A1080
                        simp only [Option.some.injEq, Prod.mk.injEq] at H
                        obtain ⟨rfl, rfl, rfl, rfl, rfl, rfl, rfl, rfl, rfl, rfl⟩ := H
                        go_wp2_with (first | ((with_reducible refine gate_callee (f := 74) rfl ?_); refine goesL_ (some 44) rfl rfl Try.func74 (by kernel_rfl) rfl #[.pointer (some ⟨g, 0, none⟩), .int .i64 a1] rfl (by (try simp only [List.map_toArray, List.map_cons, List.map_nil]); first | done | rfl | (simp only [List.length_drop, List.length_take]; rfl)) ?_; (with_reducible refine (spec_l20Rd_pick.calls kj42 g s0_0 x1001_42 a1 t202 t203 w0 _ ?side1 ?side2 A58.out).mono ?_); (case side1 => repeat (first | (with_reducible first | exact HI0.out | apply IsS115.alloc | apply IsS115.drewN | apply IsS115.drew | apply IsS115.set_1 | refine IsS115.far ?_ NB0_173.out _ | refine IsS115.far ?_ NB0_193.out _) | exact HI0.out)); (case side2 => repeat (first | (with_reducible first | exact HB.out | apply below_alloc | apply pw_below_drewN | apply below_drew1 | refine below_set ?_ (IsS115.ge HI0.out) | refine below_set ?_ GE173.out | refine below_set ?_ GE193.out) | exact HB.out)); rintro e w109 ⟨rfl, hi, hb, hk⟩; refine ⟨_, rfl, ?_⟩; have n0_ := Aside0.mk (KeepBut.blk hk (g' := gb173) (o := .cells #[.int .i64 0, .int .i64 0, .int .i64 0, .int .i64 0, .int .i64 0, .int .i64 0, .int .i64 0, .int .i64 0, .int .i64 0] 85 (0, 0)) (by (with_reducible repeat (first | refine blk_drewN ?_ _ | refine blk_drew ?_ | refine blk_alloc ?_ _)); exact BK173.out) NB173_0.out (by simp)); have n1_ := Aside0.mk (KeepBut.blk hk (g' := gb193) (o := .cells #[.int .i64 x194000_42, .int .i64 x194001_42, .int .i64 x194002_42, .int .i64 x194003_42, .int .i64 x194004_42, .int .i64 x194005_42, .int .i64 x194006_42, .int .i64 x194007_42, .int .i64 x194008_42] 85 (0, 0)) (by (with_reducible repeat (first | refine blk_drewN ?_ _ | refine blk_drew ?_ | refine blk_alloc ?_ _)); exact BK193.out) NB193_0.out (by simp)); have n2_ := Aside0.mk (KeepBut.trans (by repeat (first | (with_reducible first | exact HK.out | apply KeepBut.set_ | apply keep_drewN | apply keep_drew | apply keep_alloc | refine keep_far ?_ GW173.out _ | refine keep_far ?_ GW193.out _) | exact HK.out)) hk (.inl rfl)); have n3_ := Aside0.mk (hb); have n4_ := Aside0.mk (hi); clear BK173; clear BK193; clear HK; clear HB; clear HI0; have BK173 := n0_; have BK193 := n1_; have HK := n2_; have HB := n3_; have HI0 := n4_; clear n0_ n1_ n2_ n3_ n4_; (try clear hb); (try clear hb2); (try clear hk); (try clear hi)) | ((with_reducible refine gate_callee (f := 74) rfl ?_); refine goesL_ (some 48) rfl rfl Try.func74 (by kernel_rfl) rfl #[.pointer (some ⟨g, 0, none⟩), .int .i64 5] rfl (by (try simp only [List.map_toArray, List.map_cons, List.map_nil]); first | done | rfl | (simp only [List.length_drop, List.length_take]; rfl)) ?_; (with_reducible refine (spec_l20Rd_pick.calls kj42 g s0_0 t203 5 t204 t205 w0 _ ?side1 ?side2 A66.out).mono ?_); (case side1 => repeat (first | (with_reducible first | exact HI0.out | apply IsS115.alloc | apply IsS115.drewN | apply IsS115.drew | apply IsS115.set_1 | refine IsS115.far ?_ NB0_173.out _ | refine IsS115.far ?_ NB0_193.out _) | exact HI0.out)); (case side2 => repeat (first | (with_reducible first | exact HB.out | apply below_alloc | apply pw_below_drewN | apply below_drew1 | refine below_set ?_ (IsS115.ge HI0.out) | refine below_set ?_ GE173.out | refine below_set ?_ GE193.out) | exact HB.out)); rintro e w110 ⟨rfl, hi, hb, hk⟩; refine ⟨_, rfl, ?_⟩; have n0_ := Aside0.mk (KeepBut.blk hk (g' := gb173) (o := .cells #[.int .i64 0, .int .i64 0, .int .i64 0, .int .i64 0, .int .i64 0, .int .i64 0, .int .i64 0, .int .i64 0, .int .i64 0] 85 (0, 0)) (by (with_reducible repeat (first | refine blk_drewN ?_ _ | refine blk_drew ?_ | refine blk_alloc ?_ _)); exact BK173.out) NB173_0.out (by simp)); have n1_ := Aside0.mk (KeepBut.blk hk (g' := gb193) (o := .cells #[.int .i64 x194000_42, .int .i64 x194001_42, .int .i64 x194002_42, .int .i64 x194003_42, .int .i64 x194004_42, .int .i64 x194005_42, .int .i64 x194006_42, .int .i64 x194007_42, .int .i64 x194008_42] 85 (0, 0)) (by (with_reducible repeat (first | refine blk_drewN ?_ _ | refine blk_drew ?_ | refine blk_alloc ?_ _)); exact BK193.out) NB193_0.out (by simp)); have n2_ := Aside0.mk (KeepBut.trans (by repeat (first | (with_reducible first | exact HK.out | apply KeepBut.set_ | apply keep_drewN | apply keep_drew | apply keep_alloc | refine keep_far ?_ GW173.out _ | refine keep_far ?_ GW193.out _) | exact HK.out)) hk (.inl rfl)); have n3_ := Aside0.mk (hb); have n4_ := Aside0.mk (hi); clear BK173; clear BK193; clear HK; clear HB; clear HI0; have BK173 := n0_; have BK193 := n1_; have HK := n2_; have HB := n3_; have HI0 := n4_; clear n0_ n1_ n2_ n3_ n4_; (try clear hb); (try clear hb2); (try clear hk); (try clear hi)) | ((with_reducible refine gate_callee (f := 74) rfl ?_); refine goesL_ (some 76) rfl rfl Try.func74 (by kernel_rfl) rfl #[.pointer (some ⟨g, 0, none⟩), .int .i64 5] rfl (by (try simp only [List.map_toArray, List.map_cons, List.map_nil]); first | done | rfl | (simp only [List.length_drop, List.length_take]; rfl)) ?_; (with_reducible refine (spec_l20Rd_pick.calls kj42 g s0_0 t205 5 t221 t222 w0 _ ?side1 ?side2 A108.out).mono ?_); (case side1 => repeat (first | (with_reducible first | exact HI0.out | apply IsS115.alloc | apply IsS115.drewN | apply IsS115.drew | apply IsS115.set_1 | refine IsS115.far ?_ NB0_173.out _ | refine IsS115.far ?_ NB0_193.out _) | exact HI0.out)); (case side2 => repeat (first | (with_reducible first | exact HB.out | apply below_alloc | apply pw_below_drewN | apply below_drew1 | refine below_set ?_ (IsS115.ge HI0.out) | refine below_set ?_ GE173.out | refine below_set ?_ GE193.out) | exact HB.out)); rintro e w111 ⟨rfl, hi, hb, hk⟩; refine ⟨_, rfl, ?_⟩; have n0_ := Aside0.mk (KeepBut.blk hk (g' := gb173) (o := .cells #[.int .i64 0, .int .i64 0, .int .i64 0, .int .i64 0, .int .i64 0, .int .i64 0, .int .i64 0, .int .i64 0, .int .i64 0] 85 (0, 0)) (by (with_reducible repeat (first | refine blk_drewN ?_ _ | refine blk_drew ?_ | refine blk_alloc ?_ _)); exact BK173.out) NB173_0.out (by simp)); have n1_ := Aside0.mk (KeepBut.blk hk (g' := gb193) (o := .cells #[.int .i64 x194000_42, .int .i64 x194001_42, .int .i64 x194002_42, .int .i64 x194003_42, .int .i64 x194004_42, .int .i64 x194005_42, .int .i64 x194006_42, .int .i64 x194007_42, .int .i64 x194008_42] 85 (0, 0)) (by (with_reducible repeat (first | refine blk_drewN ?_ _ | refine blk_drew ?_ | refine blk_alloc ?_ _)); exact BK193.out) NB193_0.out (by simp)); have n2_ := Aside0.mk (KeepBut.trans (by repeat (first | (with_reducible first | exact HK.out | apply KeepBut.set_ | apply keep_drewN | apply keep_drew | apply keep_alloc | refine keep_far ?_ GW173.out _ | refine keep_far ?_ GW193.out _) | exact HK.out)) hk (.inl rfl)); have n3_ := Aside0.mk (hb); have n4_ := Aside0.mk (hi); clear BK173; clear BK193; clear HK; clear HB; clear HI0; have BK173 := n0_; have BK193 := n1_; have HK := n2_; have HB := n3_; have HI0 := n4_; clear n0_ n1_ n2_ n3_ n4_; (try clear hb); (try clear hb2); (try clear hk); (try clear hi); have hnb112 := NB193_173.out; have hnc112 := NB173_193.out; have hnb113 := NB193_0.out; have hnc113 := NB0_193.out; have hcz114_0 : w111.cell? ⟨gb193, 0, none⟩ = some (.int .i64 x194000_42) := (blk_cell BK193.out 0).trans rfl; have hcz114_1 : w111.cell? ⟨gb193, 1, none⟩ = some (.int .i64 x194001_42) := (blk_cell BK193.out 1).trans rfl; have hcz114_2 : w111.cell? ⟨gb193, 2, none⟩ = some (.int .i64 x194002_42) := (blk_cell BK193.out 2).trans rfl; have hcz114_3 : w111.cell? ⟨gb193, 3, none⟩ = some (.int .i64 x194003_42) := (blk_cell BK193.out 3).trans rfl; have hcz114_4 : w111.cell? ⟨gb193, 4, none⟩ = some (.int .i64 x194004_42) := (blk_cell BK193.out 4).trans rfl; have hcz114_5 : w111.cell? ⟨gb193, 5, none⟩ = some (.int .i64 x194005_42) := (blk_cell BK193.out 5).trans rfl; have hcz114_6 : w111.cell? ⟨gb193, 6, none⟩ = some (.int .i64 x194006_42) := (blk_cell BK193.out 6).trans rfl; have hcz114_7 : w111.cell? ⟨gb193, 7, none⟩ = some (.int .i64 x194007_42) := (blk_cell BK193.out 7).trans rfl; have hcz114_8 : w111.cell? ⟨gb193, 8, none⟩ = some (.int .i64 x194008_42) := (blk_cell BK193.out 8).trans rfl; have hfz114_0 := blk_frozen BK193.out 0; have hfz114_1 := blk_frozen BK193.out 1; have hfz114_2 := blk_frozen BK193.out 2; have hfz114_3 := blk_frozen BK193.out 3; have hfz114_4 := blk_frozen BK193.out 4; have hfz114_5 := blk_frozen BK193.out 5; have hfz114_6 := blk_frozen BK193.out 6; have hfz114_7 := blk_frozen BK193.out 7; have hfz114_8 := blk_frozen BK193.out 8; have hnb115 := NB173_0.out; have hnc115 := NB0_173.out; have hcz116_0 : w111.cell? ⟨gb173, 0, none⟩ = some (.int .i64 0) := (blk_cell BK173.out 0).trans rfl; have hcz116_1 : w111.cell? ⟨gb173, 1, none⟩ = some (.int .i64 0) := (blk_cell BK173.out 1).trans rfl; have hcz116_2 : w111.cell? ⟨gb173, 2, none⟩ = some (.int .i64 0) := (blk_cell BK173.out 2).trans rfl; have hcz116_3 : w111.cell? ⟨gb173, 3, none⟩ = some (.int .i64 0) := (blk_cell BK173.out 3).trans rfl; have hcz116_4 : w111.cell? ⟨gb173, 4, none⟩ = some (.int .i64 0) := (blk_cell BK173.out 4).trans rfl; have hcz116_5 : w111.cell? ⟨gb173, 5, none⟩ = some (.int .i64 0) := (blk_cell BK173.out 5).trans rfl; have hcz116_6 : w111.cell? ⟨gb173, 6, none⟩ = some (.int .i64 0) := (blk_cell BK173.out 6).trans rfl; have hcz116_7 : w111.cell? ⟨gb173, 7, none⟩ = some (.int .i64 0) := (blk_cell BK173.out 7).trans rfl; have hcz116_8 : w111.cell? ⟨gb173, 8, none⟩ = some (.int .i64 0) := (blk_cell BK173.out 8).trans rfl; have hfz116_0 := blk_frozen BK173.out 0; have hfz116_1 := blk_frozen BK173.out 1; have hfz116_2 := blk_frozen BK173.out 2; have hfz116_3 := blk_frozen BK173.out 3; have hfz116_4 := blk_frozen BK173.out 4; have hfz116_5 := blk_frozen BK173.out 5; have hfz116_6 := blk_frozen BK173.out 6; have hfz116_7 := blk_frozen BK173.out 7; have hfz116_8 := blk_frozen BK173.out 8))
                        refine bodyPost_ret (results_cell_row rfl _ _ gb173 85 #[.int .i64 x194000_42, .int .i64 x194001_42, .int .i64 x194002_42, .int .i64 x194003_42, .int .i64 t221, .int .i64 x194005_42, .int .i64 x194006_42, .int .i64 x194007_42, .int .i64 x194008_42] (0, 0) _ rfl (by (with_reducible repeat (first | refine blk_drewN ?_ _ | refine blk_drew ?_ | refine blk_alloc ?_ _)); refine blk_put (cs := #[.int .i64 x194000_42, .int .i64 x194001_42, .int .i64 x194002_42, .int .i64 x194003_42, .int .i64 t221, .int .i64 x194005_42, .int .i64 x194006_42, .int .i64 x194007_42, .int .i64 0]) ?_ 8 _ rfl; (with_reducible repeat (first | refine blk_drewN ?_ _ | refine blk_drew ?_ | refine blk_alloc ?_ _)); refine blk_put (cs := #[.int .i64 x194000_42, .int .i64 x194001_42, .int .i64 x194002_42, .int .i64 x194003_42, .int .i64 t221, .int .i64 x194005_42, .int .i64 x194006_42, .int .i64 0, .int .i64 0]) ?_ 7 _ rfl; (with_reducible repeat (first | refine blk_drewN ?_ _ | refine blk_drew ?_ | refine blk_alloc ?_ _)); refine blk_put (cs := #[.int .i64 x194000_42, .int .i64 x194001_42, .int .i64 x194002_42, .int .i64 x194003_42, .int .i64 t221, .int .i64 x194005_42, .int .i64 0, .int .i64 0, .int .i64 0]) ?_ 6 _ rfl; (with_reducible repeat (first | refine blk_drewN ?_ _ | refine blk_drew ?_ | refine blk_alloc ?_ _)); refine blk_put (cs := #[.int .i64 x194000_42, .int .i64 x194001_42, .int .i64 x194002_42, .int .i64 x194003_42, .int .i64 t221, .int .i64 0, .int .i64 0, .int .i64 0, .int .i64 0]) ?_ 5 _ rfl; (with_reducible repeat (first | refine blk_drewN ?_ _ | refine blk_drew ?_ | refine blk_alloc ?_ _)); refine blk_put (cs := #[.int .i64 x194000_42, .int .i64 x194001_42, .int .i64 x194002_42, .int .i64 x194003_42, .int .i64 0, .int .i64 0, .int .i64 0, .int .i64 0, .int .i64 0]) ?_ 4 _ rfl; (with_reducible repeat (first | refine blk_drewN ?_ _ | refine blk_drew ?_ | refine blk_alloc ?_ _)); refine blk_put (cs := #[.int .i64 x194000_42, .int .i64 x194001_42, .int .i64 x194002_42, .int .i64 0, .int .i64 0, .int .i64 0, .int .i64 0, .int .i64 0, .int .i64 0]) ?_ 3 _ rfl; (with_reducible repeat (first | refine blk_drewN ?_ _ | refine blk_drew ?_ | refine blk_alloc ?_ _)); refine blk_put (cs := #[.int .i64 x194000_42, .int .i64 x194001_42, .int .i64 0, .int .i64 0, .int .i64 0, .int .i64 0, .int .i64 0, .int .i64 0, .int .i64 0]) ?_ 2 _ rfl; (with_reducible repeat (first | refine blk_drewN ?_ _ | refine blk_drew ?_ | refine blk_alloc ?_ _)); refine blk_put (cs := #[.int .i64 x194000_42, .int .i64 0, .int .i64 0, .int .i64 0, .int .i64 0, .int .i64 0, .int .i64 0, .int .i64 0, .int .i64 0]) ?_ 1 _ rfl; (with_reducible repeat (first | refine blk_drewN ?_ _ | refine blk_drew ?_ | refine blk_alloc ?_ _)); refine blk_put (cs := #[.int .i64 0, .int .i64 0, .int .i64 0, .int .i64 0, .int .i64 0, .int .i64 0, .int .i64 0, .int .i64 0, .int .i64 0]) ?_ 0 _ rfl; (with_reducible repeat (first | refine blk_drewN ?_ _ | refine blk_drew ?_ | refine blk_alloc ?_ _)); refine blk_far ?_ NB173_193.out _; (with_reducible repeat (first | refine blk_drewN ?_ _ | refine blk_drew ?_ | refine blk_alloc ?_ _)); exact BK173.out) Try.underlying85 rfl (by kernel_rfl)) rfl ?_
                        exact ⟨by first | rfl | (simp [errW_none, errW_some] <;> rfl) | (simp [*, errW_none, errW_some] <;> rfl), by repeat (first | (with_reducible first | exact HI0.out | apply IsS115.alloc | apply IsS115.drewN | apply IsS115.drew | apply IsS115.set_1 | refine IsS115.far ?_ NB0_173.out _ | refine IsS115.far ?_ NB0_193.out _) | exact HI0.out), by repeat (first | (with_reducible first | exact HB.out | apply below_alloc | apply pw_below_drewN | apply below_drew1 | refine below_set ?_ (IsS115.ge HI0.out) | refine below_set ?_ GE173.out | refine below_set ?_ GE193.out) | exact HB.out), by repeat (first | (with_reducible first | exact HK.out | apply KeepBut.set_ | apply keep_drewN | apply keep_drew | apply keep_alloc | refine keep_far ?_ GW173.out _ | refine keep_far ?_ GW193.out _) | exact HK.out)⟩
                      · rw [if_neg c107] at H
                        have c107b0 : (t204 == 3) = false := beq_eq_false_iff_ne.mpr c107
                        have c107b1 : (t204 != 3) = true := bne_iff_ne.mpr c107
                        replace H := Option.bind_eq_some_iff.mp H
                        obtain ⟨⟨t223, t224, t225, t226, t227⟩, A1170, H⟩ := H
                        replace H : (some (x194000_42, x194001_42, x194002_42, x194003_42, x194004_42, t223, t224, t225, t226, t227)) = some (r1, r2, r3, r4, r5, r6, r7, r8, r9, r10) := H
                        have A117 := Aside0.mk A1170
                        clear A1170
                        simp only [Option.some.injEq, Prod.mk.injEq] at H
                        obtain ⟨rfl, rfl, rfl, rfl, rfl, rfl, rfl, rfl, rfl, rfl⟩ := H
                        go_wp2_with (first | ((with_reducible refine gate_callee (f := 74) rfl ?_); refine goesL_ (some 44) rfl rfl Try.func74 (by kernel_rfl) rfl #[.pointer (some ⟨g, 0, none⟩), .int .i64 a1] rfl (by (try simp only [List.map_toArray, List.map_cons, List.map_nil]); first | done | rfl | (simp only [List.length_drop, List.length_take]; rfl)) ?_; (with_reducible refine (spec_l20Rd_pick.calls kj42 g s0_0 x1001_42 a1 t202 t203 w0 _ ?side1 ?side2 A58.out).mono ?_); (case side1 => repeat (first | (with_reducible first | exact HI0.out | apply IsS115.alloc | apply IsS115.drewN | apply IsS115.drew | apply IsS115.set_1 | refine IsS115.far ?_ NB0_173.out _ | refine IsS115.far ?_ NB0_193.out _) | exact HI0.out)); (case side2 => repeat (first | (with_reducible first | exact HB.out | apply below_alloc | apply pw_below_drewN | apply below_drew1 | refine below_set ?_ (IsS115.ge HI0.out) | refine below_set ?_ GE173.out | refine below_set ?_ GE193.out) | exact HB.out)); rintro e w118 ⟨rfl, hi, hb, hk⟩; refine ⟨_, rfl, ?_⟩; have n0_ := Aside0.mk (KeepBut.blk hk (g' := gb173) (o := .cells #[.int .i64 0, .int .i64 0, .int .i64 0, .int .i64 0, .int .i64 0, .int .i64 0, .int .i64 0, .int .i64 0, .int .i64 0] 85 (0, 0)) (by (with_reducible repeat (first | refine blk_drewN ?_ _ | refine blk_drew ?_ | refine blk_alloc ?_ _)); exact BK173.out) NB173_0.out (by simp)); have n1_ := Aside0.mk (KeepBut.blk hk (g' := gb193) (o := .cells #[.int .i64 x194000_42, .int .i64 x194001_42, .int .i64 x194002_42, .int .i64 x194003_42, .int .i64 x194004_42, .int .i64 x194005_42, .int .i64 x194006_42, .int .i64 x194007_42, .int .i64 x194008_42] 85 (0, 0)) (by (with_reducible repeat (first | refine blk_drewN ?_ _ | refine blk_drew ?_ | refine blk_alloc ?_ _)); exact BK193.out) NB193_0.out (by simp)); have n2_ := Aside0.mk (KeepBut.trans (by repeat (first | (with_reducible first | exact HK.out | apply KeepBut.set_ | apply keep_drewN | apply keep_drew | apply keep_alloc | refine keep_far ?_ GW173.out _ | refine keep_far ?_ GW193.out _) | exact HK.out)) hk (.inl rfl)); have n3_ := Aside0.mk (hb); have n4_ := Aside0.mk (hi); clear BK173; clear BK193; clear HK; clear HB; clear HI0; have BK173 := n0_; have BK193 := n1_; have HK := n2_; have HB := n3_; have HI0 := n4_; clear n0_ n1_ n2_ n3_ n4_; (try clear hb); (try clear hb2); (try clear hk); (try clear hi)) | ((with_reducible refine gate_callee (f := 74) rfl ?_); refine goesL_ (some 48) rfl rfl Try.func74 (by kernel_rfl) rfl #[.pointer (some ⟨g, 0, none⟩), .int .i64 5] rfl (by (try simp only [List.map_toArray, List.map_cons, List.map_nil]); first | done | rfl | (simp only [List.length_drop, List.length_take]; rfl)) ?_; (with_reducible refine (spec_l20Rd_pick.calls kj42 g s0_0 t203 5 t204 t205 w0 _ ?side1 ?side2 A66.out).mono ?_); (case side1 => repeat (first | (with_reducible first | exact HI0.out | apply IsS115.alloc | apply IsS115.drewN | apply IsS115.drew | apply IsS115.set_1 | refine IsS115.far ?_ NB0_173.out _ | refine IsS115.far ?_ NB0_193.out _) | exact HI0.out)); (case side2 => repeat (first | (with_reducible first | exact HB.out | apply below_alloc | apply pw_below_drewN | apply below_drew1 | refine below_set ?_ (IsS115.ge HI0.out) | refine below_set ?_ GE173.out | refine below_set ?_ GE193.out) | exact HB.out)); rintro e w119 ⟨rfl, hi, hb, hk⟩; refine ⟨_, rfl, ?_⟩; have n0_ := Aside0.mk (KeepBut.blk hk (g' := gb173) (o := .cells #[.int .i64 0, .int .i64 0, .int .i64 0, .int .i64 0, .int .i64 0, .int .i64 0, .int .i64 0, .int .i64 0, .int .i64 0] 85 (0, 0)) (by (with_reducible repeat (first | refine blk_drewN ?_ _ | refine blk_drew ?_ | refine blk_alloc ?_ _)); exact BK173.out) NB173_0.out (by simp)); have n1_ := Aside0.mk (KeepBut.blk hk (g' := gb193) (o := .cells #[.int .i64 x194000_42, .int .i64 x194001_42, .int .i64 x194002_42, .int .i64 x194003_42, .int .i64 x194004_42, .int .i64 x194005_42, .int .i64 x194006_42, .int .i64 x194007_42, .int .i64 x194008_42] 85 (0, 0)) (by (with_reducible repeat (first | refine blk_drewN ?_ _ | refine blk_drew ?_ | refine blk_alloc ?_ _)); exact BK193.out) NB193_0.out (by simp)); have n2_ := Aside0.mk (KeepBut.trans (by repeat (first | (with_reducible first | exact HK.out | apply KeepBut.set_ | apply keep_drewN | apply keep_drew | apply keep_alloc | refine keep_far ?_ GW173.out _ | refine keep_far ?_ GW193.out _) | exact HK.out)) hk (.inl rfl)); have n3_ := Aside0.mk (hb); have n4_ := Aside0.mk (hi); clear BK173; clear BK193; clear HK; clear HB; clear HI0; have BK173 := n0_; have BK193 := n1_; have HK := n2_; have HB := n3_; have HI0 := n4_; clear n0_ n1_ n2_ n3_ n4_; (try clear hb); (try clear hb2); (try clear hk); (try clear hi)) | ((with_reducible refine gate_callee (f := 95) rfl ?_); refine goesL_ (some 50) rfl rfl Try.func95 (by kernel_rfl) rfl #[.pointer (some ⟨g, 0, none⟩), .int .i64 1] rfl (by (try simp only [List.map_toArray, List.map_cons, List.map_nil]); first | done | rfl | (simp only [List.length_drop, List.length_take]; rfl)) ?_; (with_reducible refine (spec_l20Agg.calls kj42 g s0_0 t205 1 t223 t224 t225 t226 t227 w0 _ ?side1 ?side2 A117.out).mono ?_); (case side1 => repeat (first | (with_reducible first | exact HI0.out | apply IsS115.alloc | apply IsS115.drewN | apply IsS115.drew | apply IsS115.set_1 | refine IsS115.far ?_ NB0_173.out _ | refine IsS115.far ?_ NB0_193.out _) | exact HI0.out)); (case side2 => repeat (first | (with_reducible first | exact HB.out | apply below_alloc | apply pw_below_drewN | apply below_drew1 | refine below_set ?_ (IsS115.ge HI0.out) | refine below_set ?_ GE173.out | refine below_set ?_ GE193.out) | exact HB.out)); rintro e w120 ⟨rfl, hi, hb, hk⟩; refine ⟨_, rfl, ?_⟩; have n0_ := Aside0.mk (KeepBut.blk hk (g' := gb173) (o := .cells #[.int .i64 0, .int .i64 0, .int .i64 0, .int .i64 0, .int .i64 0, .int .i64 0, .int .i64 0, .int .i64 0, .int .i64 0] 85 (0, 0)) (by (with_reducible repeat (first | refine blk_drewN ?_ _ | refine blk_drew ?_ | refine blk_alloc ?_ _)); exact BK173.out) NB173_0.out (by simp)); have n1_ := Aside0.mk (KeepBut.blk hk (g' := gb193) (o := .cells #[.int .i64 x194000_42, .int .i64 x194001_42, .int .i64 x194002_42, .int .i64 x194003_42, .int .i64 x194004_42, .int .i64 x194005_42, .int .i64 x194006_42, .int .i64 x194007_42, .int .i64 x194008_42] 85 (0, 0)) (by (with_reducible repeat (first | refine blk_drewN ?_ _ | refine blk_drew ?_ | refine blk_alloc ?_ _)); exact BK193.out) NB193_0.out (by simp)); have n2_ := Aside0.mk (KeepBut.trans (by repeat (first | (with_reducible first | exact HK.out | apply KeepBut.set_ | apply keep_drewN | apply keep_drew | apply keep_alloc | refine keep_far ?_ GW173.out _ | refine keep_far ?_ GW193.out _) | exact HK.out)) hk (.inl rfl)); have n3_ := Aside0.mk (hb); have n4_ := Aside0.mk (hi); clear BK173; clear BK193; clear HK; clear HB; clear HI0; have BK173 := n0_; have BK193 := n1_; have HK := n2_; have HB := n3_; have HI0 := n4_; clear n0_ n1_ n2_ n3_ n4_; (try clear hb); (try clear hb2); (try clear hk); (try clear hi); have hnb121 := NB193_173.out; have hnc121 := NB173_193.out; have hnb122 := NB193_0.out; have hnc122 := NB0_193.out; have hcz123_0 : w120.cell? ⟨gb193, 0, none⟩ = some (.int .i64 x194000_42) := (blk_cell BK193.out 0).trans rfl; have hcz123_1 : w120.cell? ⟨gb193, 1, none⟩ = some (.int .i64 x194001_42) := (blk_cell BK193.out 1).trans rfl; have hcz123_2 : w120.cell? ⟨gb193, 2, none⟩ = some (.int .i64 x194002_42) := (blk_cell BK193.out 2).trans rfl; have hcz123_3 : w120.cell? ⟨gb193, 3, none⟩ = some (.int .i64 x194003_42) := (blk_cell BK193.out 3).trans rfl; have hcz123_4 : w120.cell? ⟨gb193, 4, none⟩ = some (.int .i64 x194004_42) := (blk_cell BK193.out 4).trans rfl; have hcz123_5 : w120.cell? ⟨gb193, 5, none⟩ = some (.int .i64 x194005_42) := (blk_cell BK193.out 5).trans rfl; have hcz123_6 : w120.cell? ⟨gb193, 6, none⟩ = some (.int .i64 x194006_42) := (blk_cell BK193.out 6).trans rfl; have hcz123_7 : w120.cell? ⟨gb193, 7, none⟩ = some (.int .i64 x194007_42) := (blk_cell BK193.out 7).trans rfl; have hcz123_8 : w120.cell? ⟨gb193, 8, none⟩ = some (.int .i64 x194008_42) := (blk_cell BK193.out 8).trans rfl; have hfz123_0 := blk_frozen BK193.out 0; have hfz123_1 := blk_frozen BK193.out 1; have hfz123_2 := blk_frozen BK193.out 2; have hfz123_3 := blk_frozen BK193.out 3; have hfz123_4 := blk_frozen BK193.out 4; have hfz123_5 := blk_frozen BK193.out 5; have hfz123_6 := blk_frozen BK193.out 6; have hfz123_7 := blk_frozen BK193.out 7; have hfz123_8 := blk_frozen BK193.out 8; have hnb124 := NB173_0.out; have hnc124 := NB0_173.out; have hcz125_0 : w120.cell? ⟨gb173, 0, none⟩ = some (.int .i64 0) := (blk_cell BK173.out 0).trans rfl; have hcz125_1 : w120.cell? ⟨gb173, 1, none⟩ = some (.int .i64 0) := (blk_cell BK173.out 1).trans rfl; have hcz125_2 : w120.cell? ⟨gb173, 2, none⟩ = some (.int .i64 0) := (blk_cell BK173.out 2).trans rfl; have hcz125_3 : w120.cell? ⟨gb173, 3, none⟩ = some (.int .i64 0) := (blk_cell BK173.out 3).trans rfl; have hcz125_4 : w120.cell? ⟨gb173, 4, none⟩ = some (.int .i64 0) := (blk_cell BK173.out 4).trans rfl; have hcz125_5 : w120.cell? ⟨gb173, 5, none⟩ = some (.int .i64 0) := (blk_cell BK173.out 5).trans rfl; have hcz125_6 : w120.cell? ⟨gb173, 6, none⟩ = some (.int .i64 0) := (blk_cell BK173.out 6).trans rfl; have hcz125_7 : w120.cell? ⟨gb173, 7, none⟩ = some (.int .i64 0) := (blk_cell BK173.out 7).trans rfl; have hcz125_8 : w120.cell? ⟨gb173, 8, none⟩ = some (.int .i64 0) := (blk_cell BK173.out 8).trans rfl; have hfz125_0 := blk_frozen BK173.out 0; have hfz125_1 := blk_frozen BK173.out 1; have hfz125_2 := blk_frozen BK173.out 2; have hfz125_3 := blk_frozen BK173.out 3; have hfz125_4 := blk_frozen BK173.out 4; have hfz125_5 := blk_frozen BK173.out 5; have hfz125_6 := blk_frozen BK173.out 6; have hfz125_7 := blk_frozen BK173.out 7; have hfz125_8 := blk_frozen BK173.out 8))
                        refine bodyPost_ret (results_cell_row rfl _ _ gb173 85 #[.int .i64 x194000_42, .int .i64 x194001_42, .int .i64 x194002_42, .int .i64 x194003_42, .int .i64 x194004_42, .int .i64 t223, .int .i64 t224, .int .i64 t225, .int .i64 t226] (0, 0) _ rfl (by (with_reducible repeat (first | refine blk_drewN ?_ _ | refine blk_drew ?_ | refine blk_alloc ?_ _)); refine blk_put (cs := #[.int .i64 x194000_42, .int .i64 x194001_42, .int .i64 x194002_42, .int .i64 x194003_42, .int .i64 x194004_42, .int .i64 t223, .int .i64 t224, .int .i64 t225, .int .i64 0]) ?_ 8 _ rfl; (with_reducible repeat (first | refine blk_drewN ?_ _ | refine blk_drew ?_ | refine blk_alloc ?_ _)); refine blk_put (cs := #[.int .i64 x194000_42, .int .i64 x194001_42, .int .i64 x194002_42, .int .i64 x194003_42, .int .i64 x194004_42, .int .i64 t223, .int .i64 t224, .int .i64 0, .int .i64 0]) ?_ 7 _ rfl; (with_reducible repeat (first | refine blk_drewN ?_ _ | refine blk_drew ?_ | refine blk_alloc ?_ _)); refine blk_put (cs := #[.int .i64 x194000_42, .int .i64 x194001_42, .int .i64 x194002_42, .int .i64 x194003_42, .int .i64 x194004_42, .int .i64 t223, .int .i64 0, .int .i64 0, .int .i64 0]) ?_ 6 _ rfl; (with_reducible repeat (first | refine blk_drewN ?_ _ | refine blk_drew ?_ | refine blk_alloc ?_ _)); refine blk_put (cs := #[.int .i64 x194000_42, .int .i64 x194001_42, .int .i64 x194002_42, .int .i64 x194003_42, .int .i64 x194004_42, .int .i64 0, .int .i64 0, .int .i64 0, .int .i64 0]) ?_ 5 _ rfl; (with_reducible repeat (first | refine blk_drewN ?_ _ | refine blk_drew ?_ | refine blk_alloc ?_ _)); refine blk_put (cs := #[.int .i64 x194000_42, .int .i64 x194001_42, .int .i64 x194002_42, .int .i64 x194003_42, .int .i64 0, .int .i64 0, .int .i64 0, .int .i64 0, .int .i64 0]) ?_ 4 _ rfl; (with_reducible repeat (first | refine blk_drewN ?_ _ | refine blk_drew ?_ | refine blk_alloc ?_ _)); refine blk_put (cs := #[.int .i64 x194000_42, .int .i64 x194001_42, .int .i64 x194002_42, .int .i64 0, .int .i64 0, .int .i64 0, .int .i64 0, .int .i64 0, .int .i64 0]) ?_ 3 _ rfl; (with_reducible repeat (first | refine blk_drewN ?_ _ | refine blk_drew ?_ | refine blk_alloc ?_ _)); refine blk_put (cs := #[.int .i64 x194000_42, .int .i64 x194001_42, .int .i64 0, .int .i64 0, .int .i64 0, .int .i64 0, .int .i64 0, .int .i64 0, .int .i64 0]) ?_ 2 _ rfl; (with_reducible repeat (first | refine blk_drewN ?_ _ | refine blk_drew ?_ | refine blk_alloc ?_ _)); refine blk_put (cs := #[.int .i64 x194000_42, .int .i64 0, .int .i64 0, .int .i64 0, .int .i64 0, .int .i64 0, .int .i64 0, .int .i64 0, .int .i64 0]) ?_ 1 _ rfl; (with_reducible repeat (first | refine blk_drewN ?_ _ | refine blk_drew ?_ | refine blk_alloc ?_ _)); refine blk_put (cs := #[.int .i64 0, .int .i64 0, .int .i64 0, .int .i64 0, .int .i64 0, .int .i64 0, .int .i64 0, .int .i64 0, .int .i64 0]) ?_ 0 _ rfl; (with_reducible repeat (first | refine blk_drewN ?_ _ | refine blk_drew ?_ | refine blk_alloc ?_ _)); refine blk_far ?_ NB173_193.out _; (with_reducible repeat (first | refine blk_drewN ?_ _ | refine blk_drew ?_ | refine blk_alloc ?_ _)); refine blk_far ?_ NB173_193.out _; (with_reducible repeat (first | refine blk_drewN ?_ _ | refine blk_drew ?_ | refine blk_alloc ?_ _)); refine blk_far ?_ NB173_193.out _; (with_reducible repeat (first | refine blk_drewN ?_ _ | refine blk_drew ?_ | refine blk_alloc ?_ _)); refine blk_far ?_ NB173_193.out _; (with_reducible repeat (first | refine blk_drewN ?_ _ | refine blk_drew ?_ | refine blk_alloc ?_ _)); exact BK173.out) Try.underlying85 rfl (by kernel_rfl)) rfl ?_
                        exact ⟨by first | rfl | (simp [errW_none, errW_some] <;> rfl) | (simp [*, errW_none, errW_some] <;> rfl), by repeat (first | (with_reducible first | exact HI0.out | apply IsS115.alloc | apply IsS115.drewN | apply IsS115.drew | apply IsS115.set_1 | refine IsS115.far ?_ NB0_173.out _ | refine IsS115.far ?_ NB0_193.out _) | exact HI0.out), by repeat (first | (with_reducible first | exact HB.out | apply below_alloc | apply pw_below_drewN | apply below_drew1 | refine below_set ?_ (IsS115.ge HI0.out) | refine below_set ?_ GE173.out | refine below_set ?_ GE193.out) | exact HB.out), by repeat (first | (with_reducible first | exact HK.out | apply KeepBut.set_ | apply keep_drewN | apply keep_drew | apply keep_alloc | refine keep_far ?_ GW173.out _ | refine keep_far ?_ GW193.out _) | exact HK.out)⟩
    · rw [if_neg c6] at H
      exact absurd H (by simp)
  · rw [if_neg c5] at H
    exact absurd H (by simp)

end Go.Proofs.Ytkmckalckafloaa.PFnPanOf
