/- Functions of the program as Lean functions, with their contracts, written by a program of mine over the kit's printer and in part by hand. No condition of its own. -/
import Derived.Test.YtkmckalckafloaaQFnWinOfx0
import Derived.Test.YtkmckalckafloaaQFnWinOfx5
import Derived.Test.YtkmckalckafloaaQFnWinOfx6
import Derived.Test.YtkmckalckafloaaQFnWinOfx7
import Derived.Test.YtkmckalckafloaaQFnWinOfx8
import Derived.Test.YtkmckalckafloaaQFnWinOfx9
namespace Go.Proofs.Ytkmckalckafloaa.PFnWinOf
open Go.RowKit Go.Proofs.YtkmckalckafloaaW.PrintWords Go.Proofs.YtkmckalckafloaaW.PrintLast Go.Proofs.YtkmckalckafloaaW.PrintMore
attribute [local go_sem] max2_int min2_int max_two min_two max_three min_three max_four min_four   -- for this text's walks alone
set_option linter.unusedVariables false
set_option linter.unusedSimpArgs false

/-! ### laws_FnWinOf: function 12 -/
mutual
def laws_FnWinOf.j0 : Nat → Int → List (S34) → Bool → Int → Int → Int → Int → Int → Int → Int → Bool → Int → Int → Option (Bool)
 | 0, _, _, _, _, _, _, _, _, _, _, _, _, _ => none
 | k + 1, x4, x5, x33, x256000, x256001, x256002, x256003, x256004, x256005, x256006, x256007, x256008, x256009 => if x33 = true then (some false) else ((spec_JobOk.f k x256000 x256001 x256002 x256003 x256004 x256005 x256006 x256007 x256008 x256009).bind fun t265 => (if t265 = true then (if x4 < 0 then (laws_FnWinOf.j1 k x4 x5 true x256000 x256001 x256002 x256003 x256004 x256005 x256006 x256007 x256008 x256009) else (laws_FnWinOf.j1 k x4 x5 (decide (x4 > 60)) x256000 x256001 x256002 x256003 x256004 x256005 x256006 x256007 x256008 x256009)) else (laws_FnWinOf.j1 k x4 x5 true x256000 x256001 x256002 x256003 x256004 x256005 x256006 x256007 x256008 x256009)))
def laws_FnWinOf.j1 : Nat → Int → List (S34) → Bool → Int → Int → Int → Int → Int → Int → Int → Bool → Int → Int → Option (Bool)
 | 0, _, _, _, _, _, _, _, _, _, _, _, _, _ => none
 | k + 1, x4, x5, x44, x256000, x256001, x256002, x256003, x256004, x256005, x256006, x256007, x256008, x256009 => if x44 = true then (if (x5.length : Int) = 0 then ((laws_frOk.f).bind fun t266 => (some t266)) else (some false)) else (laws_FnWinOf.l0 k x4 x5 0 x256000 x256001 x256002 x256003 x256004 x256005 x256006 x256007 x256008 x256009)
def laws_FnWinOf.l0 : Nat → Int → List (S34) → Int → Int → Int → Int → Int → Int → Int → Int → Bool → Int → Int → Option (Bool)
 | 0, _, _, _, _, _, _, _, _, _, _, _, _, _ => none
 | k + 1, x4, x5, x6, x256000, x256001, x256002, x256003, x256004, x256005, x256006, x256007, x256008, x256009 => if x6 < (x5.length : Int) then (if 0 ≤ x6 then ((impl_WinOk.f ((rd_T34 x5 x6).f0) ((rd_T34 x5 x6).f1)).bind fun t269 => (if t269 = true then (if x4 < ((rd_T34 x5 x6).f0) then (laws_FnWinOf.j3 k x4 x5 x6 true x256000 x256001 x256002 x256003 x256004 x256005 x256006 x256007 x256008 x256009 ((rd_T34 x5 x6).f0) ((rd_T34 x5 x6).f1)) else (if x4 ≥ ((rd_T34 x5 x6).f1) then (laws_FnWinOf.j3 k x4 x5 x6 true x256000 x256001 x256002 x256003 x256004 x256005 x256006 x256007 x256008 x256009 ((rd_T34 x5 x6).f0) ((rd_T34 x5 x6).f1)) else (if (wrap64 (((rd_T34 x5 x6).f1) - ((rd_T34 x5 x6).f0))) = x256003 then (if x6 > 0 then (if 0 ≤ (wrap64 (x6 - 1)) then (if (wrap64 (x6 - 1)) < (x5.length : Int) then (laws_FnWinOf.j3 k x4 x5 x6 (decide (((rd_T34 x5 (wrap64 (x6 - 1))).f0) ≥ ((rd_T34 x5 x6).f0))) x256000 x256001 x256002 x256003 x256004 x256005 x256006 x256007 x256008 x256009 ((rd_T34 x5 x6).f0) ((rd_T34 x5 x6).f1)) else (none)) else (none)) else (laws_FnWinOf.j3 k x4 x5 x6 false x256000 x256001 x256002 x256003 x256004 x256005 x256006 x256007 x256008 x256009 ((rd_T34 x5 x6).f0) ((rd_T34 x5 x6).f1))) else (laws_FnWinOf.j3 k x4 x5 x6 true x256000 x256001 x256002 x256003 x256004 x256005 x256006 x256007 x256008 x256009 ((rd_T34 x5 x6).f0) ((rd_T34 x5 x6).f1))))) else (laws_FnWinOf.j3 k x4 x5 x6 true x256000 x256001 x256002 x256003 x256004 x256005 x256006 x256007 x256008 x256009 ((rd_T34 x5 x6).f0) ((rd_T34 x5 x6).f1)))) else (none)) else (if x256002 = 2 then (laws_FnWinOf.l1 k x4 x5 0 0 x256000 x256001 x256002 x256003 x256004 x256005 x256006 x256007 x256008 x256009) else (if (x5.length : Int) = 1 then (if 1 ≥ 1 then (some (decide (1 ≤ 4))) else (some false)) else (some false)))
def laws_FnWinOf.j3 : Nat → Int → List (S34) → Int → Bool → Int → Int → Int → Int → Int → Int → Int → Bool → Int → Int → Int → Int → Option (Bool)
 | 0, _, _, _, _, _, _, _, _, _, _, _, _, _, _, _, _ => none
 | k + 1, x4, x5, x6, x100, x256000, x256001, x256002, x256003, x256004, x256005, x256006, x256007, x256008, x256009, x269000, x269001 => if x100 = true then (some false) else (if x256002 = 1 then (if x256003 = 0 then (none) else (if (Int.tmod x269000 x256003) = 0 then (if x256002 = 3 then (if x269000 = x4 then (if x256002 = 2 then (if x256004 = 0 then (none) else (if (Int.tmod x269000 x256004) = 0 then (laws_FnWinOf.l0 k x4 x5 (wrap64 (x6 + 1)) x256000 x256001 x256002 x256003 x256004 x256005 x256006 x256007 x256008 x256009) else (some false))) else (laws_FnWinOf.l0 k x4 x5 (wrap64 (x6 + 1)) x256000 x256001 x256002 x256003 x256004 x256005 x256006 x256007 x256008 x256009)) else (some false)) else (if x256002 = 2 then (if x256004 = 0 then (none) else (if (Int.tmod x269000 x256004) = 0 then (laws_FnWinOf.l0 k x4 x5 (wrap64 (x6 + 1)) x256000 x256001 x256002 x256003 x256004 x256005 x256006 x256007 x256008 x256009) else (some false))) else (laws_FnWinOf.l0 k x4 x5 (wrap64 (x6 + 1)) x256000 x256001 x256002 x256003 x256004 x256005 x256006 x256007 x256008 x256009))) else (some false))) else (if x256002 = 3 then (if x269000 = x4 then (if x256002 = 2 then (if x256004 = 0 then (none) else (if (Int.tmod x269000 x256004) = 0 then (laws_FnWinOf.l0 k x4 x5 (wrap64 (x6 + 1)) x256000 x256001 x256002 x256003 x256004 x256005 x256006 x256007 x256008 x256009) else (some false))) else (laws_FnWinOf.l0 k x4 x5 (wrap64 (x6 + 1)) x256000 x256001 x256002 x256003 x256004 x256005 x256006 x256007 x256008 x256009)) else (some false)) else (if x256002 = 2 then (if x256004 = 0 then (none) else (if (Int.tmod x269000 x256004) = 0 then (laws_FnWinOf.l0 k x4 x5 (wrap64 (x6 + 1)) x256000 x256001 x256002 x256003 x256004 x256005 x256006 x256007 x256008 x256009) else (some false))) else (laws_FnWinOf.l0 k x4 x5 (wrap64 (x6 + 1)) x256000 x256001 x256002 x256003 x256004 x256005 x256006 x256007 x256008 x256009))))
def laws_FnWinOf.l1 : Nat → Int → List (S34) → Int → Int → Int → Int → Int → Int → Int → Int → Int → Bool → Int → Int → Option (Bool)
 | 0, _, _, _, _, _, _, _, _, _, _, _, _, _, _ => none
 | k + 1, x4, x5, x8, x9, x256000, x256001, x256002, x256003, x256004, x256005, x256006, x256007, x256008, x256009 => if x9 ≤ x4 then (if x4 < (wrap64 (x9 + x256003)) then (laws_FnWinOf.l1 k x4 x5 (wrap64 (x8 + 1)) (wrap64 (x9 + x256004)) x256000 x256001 x256002 x256003 x256004 x256005 x256006 x256007 x256008 x256009) else (laws_FnWinOf.l1 k x4 x5 x8 (wrap64 (x9 + x256004)) x256000 x256001 x256002 x256003 x256004 x256005 x256006 x256007 x256008 x256009)) else (if (x5.length : Int) = x8 then (if x8 ≥ 1 then (some (decide (x8 ≤ 4))) else (some false)) else (some false))
end
def laws_FnWinOf.f (k : Nat) (l0 : List Int) : Option (Bool) := if (l0.length : Int) > 1048576 then (some true) else ((spec_DrawWinOf.f k l0).bind fun bt244 => ((impl_WinOf.f k bt244.1 bt244.2.1 bt244.2.2.1 bt244.2.2.2.1 bt244.2.2.2.2.1 bt244.2.2.2.2.2.1 bt244.2.2.2.2.2.2.1 bt244.2.2.2.2.2.2.2.1 bt244.2.2.2.2.2.2.2.2.1 bt244.2.2.2.2.2.2.2.2.2.1 bt244.2.2.2.2.2.2.2.2.2.2).bind fun t256 => ((spec_WinOf.f k bt244.1 bt244.2.1 bt244.2.2.1 bt244.2.2.2.1 bt244.2.2.2.2.1 bt244.2.2.2.2.2.1 bt244.2.2.2.2.2.2.1 bt244.2.2.2.2.2.2.2.1 bt244.2.2.2.2.2.2.2.2.1 bt244.2.2.2.2.2.2.2.2.2.1 bt244.2.2.2.2.2.2.2.2.2.2).bind fun t259 => ((laws_frWins.f k t256 t259).bind fun t262 => (if t262 = true then ((impl_JobOk.f k bt244.1 bt244.2.1 bt244.2.2.1 bt244.2.2.2.1 bt244.2.2.2.2.1 bt244.2.2.2.2.2.1 bt244.2.2.2.2.2.2.1 bt244.2.2.2.2.2.2.2.1 bt244.2.2.2.2.2.2.2.2.1 bt244.2.2.2.2.2.2.2.2.2.1).bind fun t263 => ((spec_JobOk.f k bt244.1 bt244.2.1 bt244.2.2.1 bt244.2.2.2.1 bt244.2.2.2.2.1 bt244.2.2.2.2.2.1 bt244.2.2.2.2.2.2.1 bt244.2.2.2.2.2.2.2.1 bt244.2.2.2.2.2.2.2.2.1 bt244.2.2.2.2.2.2.2.2.2.1).bind fun t264 => (laws_FnWinOf.j0 k bt244.2.2.2.2.2.2.2.2.2.2 t256 (t263 != t264) bt244.1 bt244.2.1 bt244.2.2.1 bt244.2.2.2.1 bt244.2.2.2.2.1 bt244.2.2.2.2.2.1 bt244.2.2.2.2.2.2.1 bt244.2.2.2.2.2.2.2.1 bt244.2.2.2.2.2.2.2.2.1 bt244.2.2.2.2.2.2.2.2.2.1))) else (laws_FnWinOf.j0 k bt244.2.2.2.2.2.2.2.2.2.2 t256 true bt244.1 bt244.2.1 bt244.2.2.1 bt244.2.2.2.1 bt244.2.2.2.2.1 bt244.2.2.2.2.2.1 bt244.2.2.2.2.2.2.1 bt244.2.2.2.2.2.2.2.1 bt244.2.2.2.2.2.2.2.2.1 bt244.2.2.2.2.2.2.2.2.2.1))))))
theorem laws_FnWinOf.mono_l : ∀ k, (∀ y0 y1 y2 y3 y4 y5 y6 y7 y8 y9 y10 y11 y12, LeO (laws_FnWinOf.j0 k y0 y1 y2 y3 y4 y5 y6 y7 y8 y9 y10 y11 y12) (laws_FnWinOf.j0 (k + 1) y0 y1 y2 y3 y4 y5 y6 y7 y8 y9 y10 y11 y12)) ∧ (∀ y0 y1 y2 y3 y4 y5 y6 y7 y8 y9 y10 y11 y12, LeO (laws_FnWinOf.j1 k y0 y1 y2 y3 y4 y5 y6 y7 y8 y9 y10 y11 y12) (laws_FnWinOf.j1 (k + 1) y0 y1 y2 y3 y4 y5 y6 y7 y8 y9 y10 y11 y12)) ∧ (∀ y0 y1 y2 y3 y4 y5 y6 y7 y8 y9 y10 y11 y12, LeO (laws_FnWinOf.l0 k y0 y1 y2 y3 y4 y5 y6 y7 y8 y9 y10 y11 y12) (laws_FnWinOf.l0 (k + 1) y0 y1 y2 y3 y4 y5 y6 y7 y8 y9 y10 y11 y12)) ∧ (∀ y0 y1 y2 y3 y4 y5 y6 y7 y8 y9 y10 y11 y12 y13 y14 y15, LeO (laws_FnWinOf.j3 k y0 y1 y2 y3 y4 y5 y6 y7 y8 y9 y10 y11 y12 y13 y14 y15) (laws_FnWinOf.j3 (k + 1) y0 y1 y2 y3 y4 y5 y6 y7 y8 y9 y10 y11 y12 y13 y14 y15)) ∧ (∀ y0 y1 y2 y3 y4 y5 y6 y7 y8 y9 y10 y11 y12 y13, LeO (laws_FnWinOf.l1 k y0 y1 y2 y3 y4 y5 y6 y7 y8 y9 y10 y11 y12 y13) (laws_FnWinOf.l1 (k + 1) y0 y1 y2 y3 y4 y5 y6 y7 y8 y9 y10 y11 y12 y13))
 | 0 => ⟨fun _ _ _ _ _ _ _ _ _ _ _ _ _ r h => by simp [laws_FnWinOf.j0] at h, fun _ _ _ _ _ _ _ _ _ _ _ _ _ r h => by simp [laws_FnWinOf.j1] at h, fun _ _ _ _ _ _ _ _ _ _ _ _ _ r h => by simp [laws_FnWinOf.l0] at h, fun _ _ _ _ _ _ _ _ _ _ _ _ _ _ _ _ r h => by simp [laws_FnWinOf.j3] at h, fun _ _ _ _ _ _ _ _ _ _ _ _ _ _ r h => by simp [laws_FnWinOf.l1] at h⟩
 | k + 1 => by
  obtain ⟨ih0, ih1, ih2, ih3, ih4⟩ := laws_FnWinOf.mono_l k
  refine ⟨?_, ?_, ?_, ?_, ?_⟩
  ·intro y0 y1 y2 y3 y4 y5 y6 y7 y8 y9 y10 y11 y12
   unfold laws_FnWinOf.j0
   repeat' first
   | (with_reducible exact ih0 _ _ _ _ _ _ _ _ _ _ _ _ _)
   | (with_reducible exact ih1 _ _ _ _ _ _ _ _ _ _ _ _ _)
   | (with_reducible exact ih2 _ _ _ _ _ _ _ _ _ _ _ _ _)
   | (with_reducible exact ih3 _ _ _ _ _ _ _ _ _ _ _ _ _ _ _ _)
   | (with_reducible exact ih4 _ _ _ _ _ _ _ _ _ _ _ _ _ _)
   | (with_reducible exact impl_JobOk.mono _ _ _ _ _ _ _ _ _ _ _)
   | (with_reducible exact impl_WinOf.mono _ _ _ _ _ _ _ _ _ _ _ _)
   | (with_reducible exact laws_frWins.mono _ _ _)
   | (with_reducible exact spec_DrawWinOf.mono _ _)
   | (with_reducible exact spec_JobOk.mono _ _ _ _ _ _ _ _ _ _ _)
   | (with_reducible exact spec_WinOf.mono _ _ _ _ _ _ _ _ _ _ _ _)
   | (with_reducible exact LeO.refl _)
   | (with_reducible exact LeO.none _)
   | (with_reducible refine LeO.ite ?_ ?_)
   | (with_reducible refine LeO.bind ?_ (fun _ => ?_))
   | exact ih0 _ _ _ _ _ _ _ _ _ _ _ _ _
   | exact ih1 _ _ _ _ _ _ _ _ _ _ _ _ _
   | exact ih2 _ _ _ _ _ _ _ _ _ _ _ _ _
   | exact ih3 _ _ _ _ _ _ _ _ _ _ _ _ _ _ _ _
   | exact ih4 _ _ _ _ _ _ _ _ _ _ _ _ _ _
   | exact impl_JobOk.mono _ _ _ _ _ _ _ _ _ _ _
   | exact impl_WinOf.mono _ _ _ _ _ _ _ _ _ _ _ _
   | exact laws_frWins.mono _ _ _
   | exact spec_DrawWinOf.mono _ _
   | exact spec_JobOk.mono _ _ _ _ _ _ _ _ _ _ _
   | exact spec_WinOf.mono _ _ _ _ _ _ _ _ _ _ _ _
   | exact LeO.none _
   | refine LeO.ite ?_ ?_
   | refine LeO.bind ?_ (fun _ => ?_)
  ·intro y0 y1 y2 y3 y4 y5 y6 y7 y8 y9 y10 y11 y12
   unfold laws_FnWinOf.j1
   repeat' first
   | (with_reducible exact ih0 _ _ _ _ _ _ _ _ _ _ _ _ _)
   | (with_reducible exact ih1 _ _ _ _ _ _ _ _ _ _ _ _ _)
   | (with_reducible exact ih2 _ _ _ _ _ _ _ _ _ _ _ _ _)
   | (with_reducible exact ih3 _ _ _ _ _ _ _ _ _ _ _ _ _ _ _ _)
   | (with_reducible exact ih4 _ _ _ _ _ _ _ _ _ _ _ _ _ _)
   | (with_reducible exact impl_JobOk.mono _ _ _ _ _ _ _ _ _ _ _)
   | (with_reducible exact impl_WinOf.mono _ _ _ _ _ _ _ _ _ _ _ _)
   | (with_reducible exact laws_frWins.mono _ _ _)
   | (with_reducible exact spec_DrawWinOf.mono _ _)
   | (with_reducible exact spec_JobOk.mono _ _ _ _ _ _ _ _ _ _ _)
   | (with_reducible exact spec_WinOf.mono _ _ _ _ _ _ _ _ _ _ _ _)
   | (with_reducible exact LeO.refl _)
   | (with_reducible exact LeO.none _)
   | (with_reducible refine LeO.ite ?_ ?_)
   | (with_reducible refine LeO.bind ?_ (fun _ => ?_))
   | exact ih0 _ _ _ _ _ _ _ _ _ _ _ _ _
   | exact ih1 _ _ _ _ _ _ _ _ _ _ _ _ _
   | exact ih2 _ _ _ _ _ _ _ _ _ _ _ _ _
   | exact ih3 _ _ _ _ _ _ _ _ _ _ _ _ _ _ _ _
   | exact ih4 _ _ _ _ _ _ _ _ _ _ _ _ _ _
   | exact impl_JobOk.mono _ _ _ _ _ _ _ _ _ _ _
   | exact impl_WinOf.mono _ _ _ _ _ _ _ _ _ _ _ _
   | exact laws_frWins.mono _ _ _
   | exact spec_DrawWinOf.mono _ _
   | exact spec_JobOk.mono _ _ _ _ _ _ _ _ _ _ _
   | exact spec_WinOf.mono _ _ _ _ _ _ _ _ _ _ _ _
   | exact LeO.none _
   | refine LeO.ite ?_ ?_
   | refine LeO.bind ?_ (fun _ => ?_)
  ·intro y0 y1 y2 y3 y4 y5 y6 y7 y8 y9 y10 y11 y12
   unfold laws_FnWinOf.l0
   repeat' first
   | (with_reducible exact ih0 _ _ _ _ _ _ _ _ _ _ _ _ _)
   | (with_reducible exact ih1 _ _ _ _ _ _ _ _ _ _ _ _ _)
   | (with_reducible exact ih2 _ _ _ _ _ _ _ _ _ _ _ _ _)
   | (with_reducible exact ih3 _ _ _ _ _ _ _ _ _ _ _ _ _ _ _ _)
   | (with_reducible exact ih4 _ _ _ _ _ _ _ _ _ _ _ _ _ _)
   | (with_reducible exact impl_JobOk.mono _ _ _ _ _ _ _ _ _ _ _)
   | (with_reducible exact impl_WinOf.mono _ _ _ _ _ _ _ _ _ _ _ _)
   | (with_reducible exact laws_frWins.mono _ _ _)
   | (with_reducible exact spec_DrawWinOf.mono _ _)
   | (with_reducible exact spec_JobOk.mono _ _ _ _ _ _ _ _ _ _ _)
   | (with_reducible exact spec_WinOf.mono _ _ _ _ _ _ _ _ _ _ _ _)
   | (with_reducible exact LeO.refl _)
   | (with_reducible exact LeO.none _)
   | (with_reducible refine LeO.ite ?_ ?_)
   | (with_reducible refine LeO.bind ?_ (fun _ => ?_))
   | exact ih0 _ _ _ _ _ _ _ _ _ _ _ _ _
   | exact ih1 _ _ _ _ _ _ _ _ _ _ _ _ _
   | exact ih2 _ _ _ _ _ _ _ _ _ _ _ _ _
   | exact ih3 _ _ _ _ _ _ _ _ _ _ _ _ _ _ _ _
   | exact ih4 _ _ _ _ _ _ _ _ _ _ _ _ _ _
   | exact impl_JobOk.mono _ _ _ _ _ _ _ _ _ _ _
   | exact impl_WinOf.mono _ _ _ _ _ _ _ _ _ _ _ _
   | exact laws_frWins.mono _ _ _
   | exact spec_DrawWinOf.mono _ _
   | exact spec_JobOk.mono _ _ _ _ _ _ _ _ _ _ _
   | exact spec_WinOf.mono _ _ _ _ _ _ _ _ _ _ _ _
   | exact LeO.none _
   | refine LeO.ite ?_ ?_
   | refine LeO.bind ?_ (fun _ => ?_)
  ·intro y0 y1 y2 y3 y4 y5 y6 y7 y8 y9 y10 y11 y12 y13 y14 y15
   unfold laws_FnWinOf.j3
   repeat' first
   | (with_reducible exact ih0 _ _ _ _ _ _ _ _ _ _ _ _ _)
   | (with_reducible exact ih1 _ _ _ _ _ _ _ _ _ _ _ _ _)
   | (with_reducible exact ih2 _ _ _ _ _ _ _ _ _ _ _ _ _)
   | (with_reducible exact ih3 _ _ _ _ _ _ _ _ _ _ _ _ _ _ _ _)
   | (with_reducible exact ih4 _ _ _ _ _ _ _ _ _ _ _ _ _ _)
   | (with_reducible exact impl_JobOk.mono _ _ _ _ _ _ _ _ _ _ _)
   | (with_reducible exact impl_WinOf.mono _ _ _ _ _ _ _ _ _ _ _ _)
   | (with_reducible exact laws_frWins.mono _ _ _)
   | (with_reducible exact spec_DrawWinOf.mono _ _)
   | (with_reducible exact spec_JobOk.mono _ _ _ _ _ _ _ _ _ _ _)
   | (with_reducible exact spec_WinOf.mono _ _ _ _ _ _ _ _ _ _ _ _)
   | (with_reducible exact LeO.refl _)
   | (with_reducible exact LeO.none _)
   | (with_reducible refine LeO.ite ?_ ?_)
   | (with_reducible refine LeO.bind ?_ (fun _ => ?_))
   | exact ih0 _ _ _ _ _ _ _ _ _ _ _ _ _
   | exact ih1 _ _ _ _ _ _ _ _ _ _ _ _ _
   | exact ih2 _ _ _ _ _ _ _ _ _ _ _ _ _
   | exact ih3 _ _ _ _ _ _ _ _ _ _ _ _ _ _ _ _
   | exact ih4 _ _ _ _ _ _ _ _ _ _ _ _ _ _
   | exact impl_JobOk.mono _ _ _ _ _ _ _ _ _ _ _
   | exact impl_WinOf.mono _ _ _ _ _ _ _ _ _ _ _ _
   | exact laws_frWins.mono _ _ _
   | exact spec_DrawWinOf.mono _ _
   | exact spec_JobOk.mono _ _ _ _ _ _ _ _ _ _ _
   | exact spec_WinOf.mono _ _ _ _ _ _ _ _ _ _ _ _
   | exact LeO.none _
   | refine LeO.ite ?_ ?_
   | refine LeO.bind ?_ (fun _ => ?_)
  ·intro y0 y1 y2 y3 y4 y5 y6 y7 y8 y9 y10 y11 y12 y13
   unfold laws_FnWinOf.l1
   repeat' first
   | (with_reducible exact ih0 _ _ _ _ _ _ _ _ _ _ _ _ _)
   | (with_reducible exact ih1 _ _ _ _ _ _ _ _ _ _ _ _ _)
   | (with_reducible exact ih2 _ _ _ _ _ _ _ _ _ _ _ _ _)
   | (with_reducible exact ih3 _ _ _ _ _ _ _ _ _ _ _ _ _ _ _ _)
   | (with_reducible exact ih4 _ _ _ _ _ _ _ _ _ _ _ _ _ _)
   | (with_reducible exact impl_JobOk.mono _ _ _ _ _ _ _ _ _ _ _)
   | (with_reducible exact impl_WinOf.mono _ _ _ _ _ _ _ _ _ _ _ _)
   | (with_reducible exact laws_frWins.mono _ _ _)
   | (with_reducible exact spec_DrawWinOf.mono _ _)
   | (with_reducible exact spec_JobOk.mono _ _ _ _ _ _ _ _ _ _ _)
   | (with_reducible exact spec_WinOf.mono _ _ _ _ _ _ _ _ _ _ _ _)
   | (with_reducible exact LeO.refl _)
   | (with_reducible exact LeO.none _)
   | (with_reducible refine LeO.ite ?_ ?_)
   | (with_reducible refine LeO.bind ?_ (fun _ => ?_))
   | exact ih0 _ _ _ _ _ _ _ _ _ _ _ _ _
   | exact ih1 _ _ _ _ _ _ _ _ _ _ _ _ _
   | exact ih2 _ _ _ _ _ _ _ _ _ _ _ _ _
   | exact ih3 _ _ _ _ _ _ _ _ _ _ _ _ _ _ _ _
   | exact ih4 _ _ _ _ _ _ _ _ _ _ _ _ _ _
   | exact impl_JobOk.mono _ _ _ _ _ _ _ _ _ _ _
   | exact impl_WinOf.mono _ _ _ _ _ _ _ _ _ _ _ _
   | exact laws_frWins.mono _ _ _
   | exact spec_DrawWinOf.mono _ _
   | exact spec_JobOk.mono _ _ _ _ _ _ _ _ _ _ _
   | exact spec_WinOf.mono _ _ _ _ _ _ _ _ _ _ _ _
   | exact LeO.none _
   | refine LeO.ite ?_ ?_
   | refine LeO.bind ?_ (fun _ => ?_)
theorem laws_FnWinOf.mono : ∀ a0 k, LeO (laws_FnWinOf.f k a0) (laws_FnWinOf.f (k + 1) a0) := by
 intro a0 k
 obtain ⟨ih0, ih1, ih2, ih3, ih4⟩ := laws_FnWinOf.mono_l k
 unfold laws_FnWinOf.f
 repeat' first
   | (with_reducible exact ih0 _ _ _ _ _ _ _ _ _ _ _ _ _)
   | (with_reducible exact ih1 _ _ _ _ _ _ _ _ _ _ _ _ _)
   | (with_reducible exact ih2 _ _ _ _ _ _ _ _ _ _ _ _ _)
   | (with_reducible exact ih3 _ _ _ _ _ _ _ _ _ _ _ _ _ _ _ _)
   | (with_reducible exact ih4 _ _ _ _ _ _ _ _ _ _ _ _ _ _)
   | (with_reducible exact impl_JobOk.mono _ _ _ _ _ _ _ _ _ _ _)
   | (with_reducible exact impl_WinOf.mono _ _ _ _ _ _ _ _ _ _ _ _)
   | (with_reducible exact laws_frWins.mono _ _ _)
   | (with_reducible exact spec_DrawWinOf.mono _ _)
   | (with_reducible exact spec_JobOk.mono _ _ _ _ _ _ _ _ _ _ _)
   | (with_reducible exact spec_WinOf.mono _ _ _ _ _ _ _ _ _ _ _ _)
   | (with_reducible exact LeO.refl _)
   | (with_reducible exact LeO.none _)
   | (with_reducible refine LeO.ite ?_ ?_)
   | (with_reducible refine LeO.bind ?_ (fun _ => ?_))
   | exact ih0 _ _ _ _ _ _ _ _ _ _ _ _ _
   | exact ih1 _ _ _ _ _ _ _ _ _ _ _ _ _
   | exact ih2 _ _ _ _ _ _ _ _ _ _ _ _ _
   | exact ih3 _ _ _ _ _ _ _ _ _ _ _ _ _ _ _ _
   | exact ih4 _ _ _ _ _ _ _ _ _ _ _ _ _ _
   | exact impl_JobOk.mono _ _ _ _ _ _ _ _ _ _ _
   | exact impl_WinOf.mono _ _ _ _ _ _ _ _ _ _ _ _
   | exact laws_frWins.mono _ _ _
   | exact spec_DrawWinOf.mono _ _
   | exact spec_JobOk.mono _ _ _ _ _ _ _ _ _ _ _
   | exact spec_WinOf.mono _ _ _ _ _ _ _ _ _ _ _ _
   | exact LeO.none _
   | refine LeO.ite ?_ ?_
   | refine LeO.bind ?_ (fun _ => ?_)
def laws_FnWinOf.T5 : Bool × List (List Nat × List Nat) := (true, [([], []), ([], []), ([], []), ([1, 2], [1, 2]), ([0, 3, 3], [0, 3]), ([4], [4]), ([5, 4], [5]), ([6], [6]), ([7, 6, 6], [6, 7]), ([6], [6]), ([9, 8, 6], [6, 9]), ([8, 10, 6], [6, 8, 10]), ([6, 11], [6, 11])])
def laws_FnWinOf.B5 : List Nat := [0, 0, 0, 6, 15, 31, 63, 127, 255, 127, 1023, 2047, 4095]
theorem laws_FnWinOf.tab5 : rtab .any (opsOf Try.f12 5) = laws_FnWinOf.T5 := by kernel_rfl
theorem laws_FnWinOf.bits5 : waitsOk laws_FnWinOf.T5.2 laws_FnWinOf.B5 = true := by kernel_rfl
def laws_FnWinOf.T13 : Bool × List (List Nat × List Nat) := (true, [([], []), ([0], [0]), ([1], [1]), ([2, 1], [2]), ([3], [3]), ([3], [3]), ([5, 3], [3, 5]), ([4, 6, 3], [3, 4, 6]), ([3, 7], [3, 7]), ([8, 3], [8]), ([9], [9]), ([9], [9]), ([11, 9], [9, 11]), ([10, 12, 9], [9, 10, 12]), ([9, 13], [9, 13]), ([14, 9], [14]), ([15], [15]), ([16, 15], [15, 16]), ([15], [15]), ([18, 15], [15, 18]), ([17, 19, 15], [15, 17, 19]), ([15], [15]), ([21, 15], [15, 21]), ([20, 22, 15], [15, 20, 22]), ([15, 23], [15, 23]), ([24, 15], [24]), ([25], [25]), ([26, 25], [25, 26]), ([27, 25, 25], [25, 27]), ([28], [28]), ([28], [28]), ([30, 28], [28, 30]), ([29, 31, 28], [28, 29, 31]), ([32, 28], [28, 32]), ([33, 28], [28, 33]), ([28], [28]), ([35, 28], [28, 35]), ([34, 36, 28], [28, 34, 36]), ([28, 37, 25], [25, 28, 37]), ([25, 38], [25, 38])])
def laws_FnWinOf.B13 : List Nat := [0, 1, 3, 7, 15, 15, 47, 127, 255, 511, 1023, 1023, 3071, 8191, 16383, 32767, 65535, 131071, 65535, 327679, 1048575, 65535, 2162687, 8388607, 16777215, 33554431, 67108863, 134217727, 268435455, 536870911, 536870911, 1610612735, 4294967295, 8589934591, 17179869183, 536870911, 34896609279, 137438953471, 274877906943, 549755813887]
theorem laws_FnWinOf.tab13 : rtab .any (opsOf Try.f12 13) = laws_FnWinOf.T13 := by kernel_rfl
theorem laws_FnWinOf.bits13 : waitsOk laws_FnWinOf.T13.2 laws_FnWinOf.B13 = true := by kernel_rfl
set_option maxHeartbeats 8000000 in
set_option maxRecDepth 100000 in
theorem laws_FnWinOf.calls (k : Nat) (A0 : Option Addr) (c0 : Nat) (l0 : List Int) (w : World) (hr0 : Kd.C (Kd.int .u8) w A0 l0.length l0) (hc0 : l0.length ≤ c0) (h : laws_FnWinOf.f k l0 = some true) :
  Calls Try.prog 12 #[.slice A0 l0.length c0] w fun e w' => e = .returned (.bool true) ∧ Below w.heap.size w w' := by
 have hu50 := Try.underlying50
 have hu34 := Try.underlying34
 have HR0 := Aside0.mk hr0
 have HC0 := Aside0.mk hc0
 clear hr0 hc0
 have HB := Aside0.mk (Below.refl w.heap.size w)
 have H : (if (l0.length : Int) > 1048576 then (some true) else ((spec_DrawWinOf.f k l0).bind fun bt244 => ((impl_WinOf.f k bt244.1 bt244.2.1 bt244.2.2.1 bt244.2.2.2.1 bt244.2.2.2.2.1 bt244.2.2.2.2.2.1 bt244.2.2.2.2.2.2.1 bt244.2.2.2.2.2.2.2.1 bt244.2.2.2.2.2.2.2.2.1 bt244.2.2.2.2.2.2.2.2.2.1 bt244.2.2.2.2.2.2.2.2.2.2).bind fun t256 => ((spec_WinOf.f k bt244.1 bt244.2.1 bt244.2.2.1 bt244.2.2.2.1 bt244.2.2.2.2.1 bt244.2.2.2.2.2.1 bt244.2.2.2.2.2.2.1 bt244.2.2.2.2.2.2.2.1 bt244.2.2.2.2.2.2.2.2.1 bt244.2.2.2.2.2.2.2.2.2.1 bt244.2.2.2.2.2.2.2.2.2.2).bind fun t259 => ((laws_frWins.f k t256 t259).bind fun t262 => (if t262 = true then ((impl_JobOk.f k bt244.1 bt244.2.1 bt244.2.2.1 bt244.2.2.2.1 bt244.2.2.2.2.1 bt244.2.2.2.2.2.1 bt244.2.2.2.2.2.2.1 bt244.2.2.2.2.2.2.2.1 bt244.2.2.2.2.2.2.2.2.1 bt244.2.2.2.2.2.2.2.2.2.1).bind fun t263 => ((spec_JobOk.f k bt244.1 bt244.2.1 bt244.2.2.1 bt244.2.2.2.1 bt244.2.2.2.2.1 bt244.2.2.2.2.2.1 bt244.2.2.2.2.2.2.1 bt244.2.2.2.2.2.2.2.1 bt244.2.2.2.2.2.2.2.2.1 bt244.2.2.2.2.2.2.2.2.2.1).bind fun t264 => (laws_FnWinOf.j0 k bt244.2.2.2.2.2.2.2.2.2.2 t256 (t263 != t264) bt244.1 bt244.2.1 bt244.2.2.1 bt244.2.2.2.1 bt244.2.2.2.2.1 bt244.2.2.2.2.2.1 bt244.2.2.2.2.2.2.1 bt244.2.2.2.2.2.2.2.1 bt244.2.2.2.2.2.2.2.2.1 bt244.2.2.2.2.2.2.2.2.2.1))) else (laws_FnWinOf.j0 k bt244.2.2.2.2.2.2.2.2.2.2 t256 true bt244.1 bt244.2.1 bt244.2.2.1 bt244.2.2.2.1 bt244.2.2.2.2.1 bt244.2.2.2.2.2.1 bt244.2.2.2.2.2.2.1 bt244.2.2.2.2.2.2.2.1 bt244.2.2.2.2.2.2.2.2.1 bt244.2.2.2.2.2.2.2.2.2.1))))))) = some true := h
 clear h
 by_cases c2 : (l0.length : Int) > 1048576
 ·rw [if_pos c2] at H
  have c2b0 : decide (1048576 < (l0.length : Int)) = true := decide_eq_true c2
  have c2b1 : decide (1048576 < l0.length) = true := decide_eq_true (by omega)
  clear c2
  clear H
  go_enter Try.func12, Try.ntmps12
  go_wp2
  go_ret
  exact ⟨by first | rfl | (refine congrArg (fun b_ => Ending.returned (Value.bool b_)) ?_; first | exact hrt_.out | simpa using hrt_.out | (have hq_ := hrt_.out; simp at hq_ ⊢; omega)) | (simp [errW_none, errW_some] <;> rfl) | (simp [*, errW_none, errW_some] <;> rfl), by repeat (first | (with_reducible first | exact HB.out | apply below_alloc | apply pw_below_drewN | apply below_drew1) | exact HB.out)⟩
 ·rw [if_neg c2] at H
  have c2b0 : decide (1048576 < (l0.length : Int)) = false := decide_eq_false c2
  have c2b1 : decide (1048576 < l0.length) = false := decide_eq_false (by omega)
  clear c2
  replace H := Option.bind_eq_some_iff.mp H
  obtain ⟨⟨t244, t245, t246, t247, t248, t249, t250, t251, t252, t253, t254⟩, A30, H⟩ := H
  replace H : ((impl_WinOf.f k t244 t245 t246 t247 t248 t249 t250 t251 t252 t253 t254).bind fun t256 => ((spec_WinOf.f k t244 t245 t246 t247 t248 t249 t250 t251 t252 t253 t254).bind fun t259 => ((laws_frWins.f k t256 t259).bind fun t262 => (if t262 = true then ((impl_JobOk.f k t244 t245 t246 t247 t248 t249 t250 t251 t252 t253).bind fun t263 => ((spec_JobOk.f k t244 t245 t246 t247 t248 t249 t250 t251 t252 t253).bind fun t264 => (laws_FnWinOf.j0 k t254 t256 (t263 != t264) t244 t245 t246 t247 t248 t249 t250 t251 t252 t253))) else (laws_FnWinOf.j0 k t254 t256 true t244 t245 t246 t247 t248 t249 t250 t251 t252 t253))))) = some true := H
  have A3 := Aside0.mk A30
  clear A30
  replace H := Option.bind_eq_some_iff.mp H
  obtain ⟨t256, A40, H⟩ := H
  replace H : ((spec_WinOf.f k t244 t245 t246 t247 t248 t249 t250 t251 t252 t253 t254).bind fun t259 => ((laws_frWins.f k t256 t259).bind fun t262 => (if t262 = true then ((impl_JobOk.f k t244 t245 t246 t247 t248 t249 t250 t251 t252 t253).bind fun t263 => ((spec_JobOk.f k t244 t245 t246 t247 t248 t249 t250 t251 t252 t253).bind fun t264 => (laws_FnWinOf.j0 k t254 t256 (t263 != t264) t244 t245 t246 t247 t248 t249 t250 t251 t252 t253))) else (laws_FnWinOf.j0 k t254 t256 true t244 t245 t246 t247 t248 t249 t250 t251 t252 t253)))) = some true := H
  have A4 := Aside0.mk A40
  clear A40
  have HC5 := Aside0.mk H
  clear H
  go_enter Try.func12, Try.ntmps12
  go_upto_region 5 with (first | ((with_reducible refine gate_callee (f := 33) rfl ?_); refine goesL_ (some 15) rfl rfl Try.func33 (by kernel_rfl) rfl #[.slice A0 l0.length c0] rfl (by (try simp only [List.map_toArray, List.map_cons, List.map_nil]); first | done | rfl | (simp only [List.length_drop, List.length_take]; rfl)) ?_; (with_reducible refine (spec_DrawWinOf.calls k _ _ l0 t244 t245 t246 t247 t248 t249 t250 t251 t252 t253 t254 _ ?side1 ?side2 A3.out).mono ?_); (case side1 => repeat (first | exact HR0.out | (with_reducible refine Kd.C_alloc ?_ _) | (with_reducible refine Kd.C_drewN ?_ _) | (with_reducible refine Kd.C_drew ?_))); (case side2 => exact HC0.out); rintro e w6 ⟨rfl, hb⟩; refine ⟨_, rfl, ?_⟩; have n0_ := Aside0.mk (below_step (by repeat (first | (with_reducible first | exact HB.out | apply below_alloc | apply pw_below_drewN | apply below_drew1) | exact HB.out)) hb); clear HB; have HB := n0_; clear n0_; (try clear hb); (try clear hb2); (try clear hk); (try clear hi)) | ((with_reducible refine gate_dst (N := 3) rfl ?_); refine box_event ?hg (N := 3) ?hd (cs := #[.int .i64 0, .int .i64 0, .int .i64 0, .int .i64 0, .int .i64 0, .int .i64 0, .int .i64 0, .bool false, .int .i64 0, .int .i64 0]) (t := 50) ?hr ?_; (case hd => rfl); (case hg => rfl); (case hr => first | (go_simp; done) | (go_simp; rfl)); intro gb255 hg w7 hbox hb; have n0_ := Aside0.mk (below_step (by repeat (first | (with_reducible first | exact HB.out | apply below_alloc | apply pw_below_drewN | apply below_drew1) | exact HB.out)) hb); have n1_ := Aside0.mk (hbox); have n2_ := Aside0.mk ((by rw [hg]; exact (below_size (by repeat (first | (with_reducible first | exact HB.out | apply below_alloc | apply pw_below_drewN | apply below_drew1) | exact HB.out))) : w.heap.size ≤ gb255)); have n3_ := Aside0.mk ((by rw [hg]; exact (below_size (by repeat (first | (with_reducible first | exact HB.out | apply below_alloc | apply pw_below_drewN | apply below_drew1) | exact HB.out))) : w.heap.size ≤ gb255)); clear HB; have HB := n0_; have BK255 := n1_; have GW255 := n2_; have GE255 := n3_; clear n0_ n1_ n2_ n3_; clear hb hbox hg; have hcz8_0 : w7.cell? ⟨gb255, 0, none⟩ = some (.int .i64 0) := (blk_cell BK255.out 0).trans rfl; have hcz8_1 : w7.cell? ⟨gb255, 1, none⟩ = some (.int .i64 0) := (blk_cell BK255.out 1).trans rfl; have hcz8_2 : w7.cell? ⟨gb255, 2, none⟩ = some (.int .i64 0) := (blk_cell BK255.out 2).trans rfl; have hcz8_3 : w7.cell? ⟨gb255, 3, none⟩ = some (.int .i64 0) := (blk_cell BK255.out 3).trans rfl; have hcz8_4 : w7.cell? ⟨gb255, 4, none⟩ = some (.int .i64 0) := (blk_cell BK255.out 4).trans rfl; have hcz8_5 : w7.cell? ⟨gb255, 5, none⟩ = some (.int .i64 0) := (blk_cell BK255.out 5).trans rfl; have hcz8_6 : w7.cell? ⟨gb255, 6, none⟩ = some (.int .i64 0) := (blk_cell BK255.out 6).trans rfl; have hcz8_7 : w7.cell? ⟨gb255, 7, none⟩ = some (.bool false) := (blk_cell BK255.out 7).trans rfl; have hcz8_8 : w7.cell? ⟨gb255, 8, none⟩ = some (.int .i64 0) := (blk_cell BK255.out 8).trans rfl; have hcz8_9 : w7.cell? ⟨gb255, 9, none⟩ = some (.int .i64 0) := (blk_cell BK255.out 9).trans rfl; have hfz8_0 := blk_frozen BK255.out 0; have hfz8_1 := blk_frozen BK255.out 1; have hfz8_2 := blk_frozen BK255.out 2; have hfz8_3 := blk_frozen BK255.out 3; have hfz8_4 := blk_frozen BK255.out 4; have hfz8_5 := blk_frozen BK255.out 5; have hfz8_6 := blk_frozen BK255.out 6; have hfz8_7 := blk_frozen BK255.out 7; have hfz8_8 := blk_frozen BK255.out 8; have hfz8_9 := blk_frozen BK255.out 9) | ((with_reducible refine gate_callee (f := 36) rfl ?_); refine goesL_ (some 20) rfl rfl Try.func36 (by kernel_rfl) rfl #[.agg #[.int .i64 t244, .int .i64 t245, .int .i64 t246, .int .i64 t247, .int .i64 t248, .int .i64 t249, .int .i64 t250, .bool t251, .int .i64 t252, .int .i64 t253], .int .i64 t254] rfl (by (try simp only [List.map_toArray, List.map_cons, List.map_nil]); first | done | rfl | (simp only [List.length_drop, List.length_take]; rfl)) ?_; (with_reducible refine (impl_WinOf.calls k t244 t245 t246 t247 t248 t249 t250 t251 t252 t253 t254 t256 _ A4.out).mono ?_); rintro e w9 ⟨v257, rfl, ho0, hb⟩; refine ⟨_, rfl, ?_⟩; have n0_ := Aside0.mk (Kd.R_lower ho0 (below_size (by repeat (first | (with_reducible first | exact HB.out | apply below_alloc | apply pw_below_drewN | apply below_drew1 | refine below_set ?_ GE255.out) | exact HB.out)))); have n1_ := Aside0.mk (blk_below (g := gb255) (o := .cells #[.int .i64 t244, .int .i64 t245, .int .i64 t246, .int .i64 t247, .int .i64 t248, .int .i64 t249, .int .i64 t250, .bool t251, .int .i64 t252, .int .i64 t253] 50 (0, 0)) (by (with_reducible repeat (first | refine blk_drewN ?_ _ | refine blk_drew ?_ | refine blk_alloc ?_ _)); refine blk_put (cs := #[.int .i64 t244, .int .i64 t245, .int .i64 t246, .int .i64 t247, .int .i64 t248, .int .i64 t249, .int .i64 t250, .bool t251, .int .i64 t252, .int .i64 0]) ?_ 9 _ rfl; (with_reducible repeat (first | refine blk_drewN ?_ _ | refine blk_drew ?_ | refine blk_alloc ?_ _)); refine blk_put (cs := #[.int .i64 t244, .int .i64 t245, .int .i64 t246, .int .i64 t247, .int .i64 t248, .int .i64 t249, .int .i64 t250, .bool t251, .int .i64 0, .int .i64 0]) ?_ 8 _ rfl; (with_reducible repeat (first | refine blk_drewN ?_ _ | refine blk_drew ?_ | refine blk_alloc ?_ _)); refine blk_put (cs := #[.int .i64 t244, .int .i64 t245, .int .i64 t246, .int .i64 t247, .int .i64 t248, .int .i64 t249, .int .i64 t250, .bool false, .int .i64 0, .int .i64 0]) ?_ 7 _ rfl; (with_reducible repeat (first | refine blk_drewN ?_ _ | refine blk_drew ?_ | refine blk_alloc ?_ _)); refine blk_put (cs := #[.int .i64 t244, .int .i64 t245, .int .i64 t246, .int .i64 t247, .int .i64 t248, .int .i64 t249, .int .i64 0, .bool false, .int .i64 0, .int .i64 0]) ?_ 6 _ rfl; (with_reducible repeat (first | refine blk_drewN ?_ _ | refine blk_drew ?_ | refine blk_alloc ?_ _)); refine blk_put (cs := #[.int .i64 t244, .int .i64 t245, .int .i64 t246, .int .i64 t247, .int .i64 t248, .int .i64 0, .int .i64 0, .bool false, .int .i64 0, .int .i64 0]) ?_ 5 _ rfl; (with_reducible repeat (first | refine blk_drewN ?_ _ | refine blk_drew ?_ | refine blk_alloc ?_ _)); refine blk_put (cs := #[.int .i64 t244, .int .i64 t245, .int .i64 t246, .int .i64 t247, .int .i64 0, .int .i64 0, .int .i64 0, .bool false, .int .i64 0, .int .i64 0]) ?_ 4 _ rfl; (with_reducible repeat (first | refine blk_drewN ?_ _ | refine blk_drew ?_ | refine blk_alloc ?_ _)); refine blk_put (cs := #[.int .i64 t244, .int .i64 t245, .int .i64 t246, .int .i64 0, .int .i64 0, .int .i64 0, .int .i64 0, .bool false, .int .i64 0, .int .i64 0]) ?_ 3 _ rfl; (with_reducible repeat (first | refine blk_drewN ?_ _ | refine blk_drew ?_ | refine blk_alloc ?_ _)); refine blk_put (cs := #[.int .i64 t244, .int .i64 t245, .int .i64 0, .int .i64 0, .int .i64 0, .int .i64 0, .int .i64 0, .bool false, .int .i64 0, .int .i64 0]) ?_ 2 _ rfl; (with_reducible repeat (first | refine blk_drewN ?_ _ | refine blk_drew ?_ | refine blk_alloc ?_ _)); refine blk_put (cs := #[.int .i64 t244, .int .i64 0, .int .i64 0, .int .i64 0, .int .i64 0, .int .i64 0, .int .i64 0, .bool false, .int .i64 0, .int .i64 0]) ?_ 1 _ rfl; (with_reducible repeat (first | refine blk_drewN ?_ _ | refine blk_drew ?_ | refine blk_alloc ?_ _)); refine blk_put (cs := #[.int .i64 0, .int .i64 0, .int .i64 0, .int .i64 0, .int .i64 0, .int .i64 0, .int .i64 0, .bool false, .int .i64 0, .int .i64 0]) ?_ 0 _ rfl; (with_reducible repeat (first | refine blk_drewN ?_ _ | refine blk_drew ?_ | refine blk_alloc ?_ _)); exact BK255.out) hb); have n2_ := Aside0.mk (below_step (by repeat (first | (with_reducible first | exact HB.out | apply below_alloc | apply pw_below_drewN | apply below_drew1 | refine below_set ?_ GE255.out) | exact HB.out)) hb); clear BK255; clear HB; have HO258 := n0_; have BK255 := n1_; have HB := n2_; clear n0_ n1_ n2_; (try clear hb); (try clear hb2); (try clear hk); (try clear hi); (try clear ho0)))
  (try simp only [Act.put, List.setIfInBounds_toArray, List.set_cons_zero, List.set_cons_succ])
  go_cut [33] (fun v33 wc => ∃ (kq : Nat) (x33_4 : Bool), v33 = .bool x33_4 ∧ Aside0 (laws_FnWinOf.j0 kq t254 t256 x33_4 t244 t245 t246 t247 t248 t249 t250 t251 t252 t253 = some true) ∧ Aside0 (kq ≤ k) ∧ Aside0 (Kd.R k34 34 wc w.heap.size (fun _ => True) v257 t256) ∧ Aside0 (wc.heap[gb255]? = some (.cells #[.int .i64 t244, .int .i64 t245, .int .i64 t246, .int .i64 t247, .int .i64 t248, .int .i64 t249, .int .i64 t250, .bool t251, .int .i64 t252, .int .i64 t253] 50 (0, 0))) ∧ Aside0 (Below w.heap.size w wc))
  case first =>
   have H := HC5.out
   clear HC5
   replace H := Option.bind_eq_some_iff.mp H
   obtain ⟨t259, A100, H⟩ := H
   replace H : ((laws_frWins.f k t256 t259).bind fun t262 => (if t262 = true then ((impl_JobOk.f k t244 t245 t246 t247 t248 t249 t250 t251 t252 t253).bind fun t263 => ((spec_JobOk.f k t244 t245 t246 t247 t248 t249 t250 t251 t252 t253).bind fun t264 => (laws_FnWinOf.j0 k t254 t256 (t263 != t264) t244 t245 t246 t247 t248 t249 t250 t251 t252 t253))) else (laws_FnWinOf.j0 k t254 t256 true t244 t245 t246 t247 t248 t249 t250 t251 t252 t253))) = some true := H
   have A10 := Aside0.mk A100
   clear A100
   replace H := Option.bind_eq_some_iff.mp H
   obtain ⟨t262, A110, H⟩ := H
   replace H : (if t262 = true then ((impl_JobOk.f k t244 t245 t246 t247 t248 t249 t250 t251 t252 t253).bind fun t263 => ((spec_JobOk.f k t244 t245 t246 t247 t248 t249 t250 t251 t252 t253).bind fun t264 => (laws_FnWinOf.j0 k t254 t256 (t263 != t264) t244 t245 t246 t247 t248 t249 t250 t251 t252 t253))) else (laws_FnWinOf.j0 k t254 t256 true t244 t245 t246 t247 t248 t249 t250 t251 t252 t253)) = some true := H
   have A11 := Aside0.mk A110
   clear A110
   by_cases c12 : t262 = true
   ·subst c12
    have H1 : ((impl_JobOk.f k t244 t245 t246 t247 t248 t249 t250 t251 t252 t253).bind fun t263 => ((spec_JobOk.f k t244 t245 t246 t247 t248 t249 t250 t251 t252 t253).bind fun t264 => (laws_FnWinOf.j0 k t254 t256 (t263 != t264) t244 t245 t246 t247 t248 t249 t250 t251 t252 t253))) = some true := by rw [if_pos rfl] at H; exact H
    clear H
    have H := H1
    clear H1
    replace H := Option.bind_eq_some_iff.mp H
    obtain ⟨t263, A130, H⟩ := H
    replace H : ((spec_JobOk.f k t244 t245 t246 t247 t248 t249 t250 t251 t252 t253).bind fun t264 => (laws_FnWinOf.j0 k t254 t256 (t263 != t264) t244 t245 t246 t247 t248 t249 t250 t251 t252 t253)) = some true := H
    have A13 := Aside0.mk A130
    clear A130
    replace H := Option.bind_eq_some_iff.mp H
    obtain ⟨t264, A140, H⟩ := H
    replace H : (laws_FnWinOf.j0 k t254 t256 (t263 != t264) t244 t245 t246 t247 t248 t249 t250 t251 t252 t253) = some true := H
    have A14 := Aside0.mk A140
    clear A140
    have H' := Aside0.mk H
    clear H
    try go_wp2
    have n0_ := Aside0.mk (Kd.R_drew HO258.out)
    have n1_ := Aside0.mk (blk_drew BK255.out)
    have n2_ := Aside0.mk (below_drew1 HB.out)
    clear HO258
    clear BK255
    clear HB
    have HO258 := n0_
    have BK255 := n1_
    have HB := n2_
    clear n0_ n1_ n2_
    refine start_ (n := 13) (S := fun w' => w'.cell? ⟨gb255, 0, none⟩ = some (.int .i64 t244) ∧ w'.cell? ⟨gb255, 1, none⟩ = some (.int .i64 t245) ∧ w'.cell? ⟨gb255, 2, none⟩ = some (.int .i64 t246) ∧ w'.cell? ⟨gb255, 3, none⟩ = some (.int .i64 t247) ∧ w'.cell? ⟨gb255, 4, none⟩ = some (.int .i64 t248) ∧ w'.cell? ⟨gb255, 5, none⟩ = some (.int .i64 t249) ∧ w'.cell? ⟨gb255, 6, none⟩ = some (.int .i64 t250) ∧ w'.cell? ⟨gb255, 7, none⟩ = some (.bool t251) ∧ w'.cell? ⟨gb255, 8, none⟩ = some (.int .i64 t252) ∧ w'.cell? ⟨gb255, 9, none⟩ = some (.int .i64 t253)) (ds := []) #[false, false, false, false, false, false, false, false, false, false, false, false, false] (by kernel_rfl) rfl rfl ⟨(blk_cell BK255.out 0).trans rfl, (blk_cell BK255.out 1).trans rfl, (blk_cell BK255.out 2).trans rfl, (blk_cell BK255.out 3).trans rfl, (blk_cell BK255.out 4).trans rfl, (blk_cell BK255.out 5).trans rfl, (blk_cell BK255.out 6).trans rfl, (blk_cell BK255.out 7).trans rfl, (blk_cell BK255.out 8).trans rfl, (blk_cell BK255.out 9).trans rfl⟩ (fun hHeld => ?_); refine with_tabW laws_FnWinOf.tab5 laws_FnWinOf.bits5 (fun HT_ HW_ => ?_)
    generalize w9.drew = w15 at HO258 BK255 HB hHeld ⊢
    refine pure_ (i := 0) (N := some 21) (v := ?_) (a' := ?_) #[true, false, false, false, false, false, false, false, false, false, false, false, false] rfl rfl (any_of HT_.out (by kernel_rfl)) (fun _ _ _ h => h) (Or.inl ⟨by rfl, ?_⟩) ?_ ?_
    rotate_left
    ·intro w'
     go_simp
     with_reducible rfl
    rotate_left
    ·simp only [Act.put, List.setIfInBounds_toArray, List.set_cons_zero, List.set_cons_succ, i64_w, i32_w]
     rfl
    refine pure_ (i := 2) (N := some 23) (v := ?_) (a' := ?_) #[true, false, true, false, false, false, false, false, false, false, false, false, false] rfl rfl (any_of HT_.out (by kernel_rfl)) (fun _ _ _ h => h) (Or.inl ⟨by rfl, ?_⟩) ?_ ?_
    rotate_left
    ·intro w'
     go_simp
     with_reducible rfl
    rotate_left
    ·simp only [Act.put, List.setIfInBounds_toArray, List.set_cons_zero, List.set_cons_succ, i64_w, i32_w]
     rfl
    refine take_ (i := 1) (N := some 22) (v := ?_) (a' := ?_) #[true, true, true, false, false, false, false, false, false, false, false, false, false] rfl rfl (take_ofW HT_.out HW_.out (by kernel_rfl)) (fun _ _ _ h => h) (Or.inl ⟨by rfl, ?_⟩) hHeld ?_ ?_
    rotate_left
    ·rintro w' ⟨s0, s1, s2, s3, s4, s5, s6, s7, s8, s9⟩
     go_simp
     with_reducible rfl
    rotate_left
    ·simp only [Act.put, List.setIfInBounds_toArray, List.set_cons_zero, List.set_cons_succ, i64_w, i32_w]
     rfl
    refine one_ (i := 3) (N := some 24) #[true, true, true, true, false, false, false, false, false, false, false, false, false] rfl rfl (one_of HT_.out (by kernel_rfl)) (by decide) (fun K hK => ?_)
    refine goes_ Try.func40 (by kernel_rfl) rfl #[.agg #[.int .i64 t244, .int .i64 t245, .int .i64 t246, .int .i64 t247, .int .i64 t248, .int .i64 t249, .int .i64 t250, .bool t251, .int .i64 t252, .int .i64 t253], .int .i64 t254] (by rfl) rfl rfl (by (try simp only [List.map_toArray, List.map_cons, List.map_nil]); first | done | rfl | (simp only [List.length_drop, List.length_take]; rfl)) ?_
    with_reducible refine (spec_WinOf.calls k t244 t245 t246 t247 t248 t249 t250 t251 t252 t253 t254 t259 _ A10.out).mono ?_
    rintro e w16 ⟨v260, rfl, ho0, hb⟩
    refine ⟨_, rfl, ?_⟩
    have n0_ := Aside0.mk (Kd.R_elder' (by (with_reducible repeat (first | apply Kd.R_alloc | apply Kd.R_drewN | apply Kd.R_drew)); exact HO258.out) (Kd.R_base ho0) hb)
    have n1_ := Aside0.mk (Kd.R_lower (Kd.R_new' ho0 (Kd.R_lt (by (with_reducible repeat (first | apply Kd.R_alloc | apply Kd.R_drewN | apply Kd.R_drew)); exact HO258.out))) (below_size (by repeat (first | (with_reducible first | exact HB.out | apply below_alloc | apply pw_below_drewN | apply below_drew1 | refine below_set ?_ GE255.out) | exact HB.out))))
    have n2_ := Aside0.mk (blk_below (g := gb255) (o := .cells #[.int .i64 t244, .int .i64 t245, .int .i64 t246, .int .i64 t247, .int .i64 t248, .int .i64 t249, .int .i64 t250, .bool t251, .int .i64 t252, .int .i64 t253] 50 (0, 0)) (by (with_reducible repeat (first | refine blk_drewN ?_ _ | refine blk_drew ?_ | refine blk_alloc ?_ _)); exact BK255.out) hb)
    have n3_ := Aside0.mk (below_step (by repeat (first | (with_reducible first | exact HB.out | apply below_alloc | apply pw_below_drewN | apply below_drew1 | refine below_set ?_ GE255.out) | exact HB.out)) hb)
    clear HO258
    clear BK255
    clear HB
    have HO258 := n0_
    have HO261 := n1_
    have BK255 := n2_
    have HB := n3_
    clear n0_ n1_ n2_ n3_
    (try clear hb)
    (try clear hb2)
    (try clear hk)
    (try clear hi)
    (try clear ho0)
    obtain ⟨Ao17, co17, eo17⟩ := Kd.R_slice HO258.out
    (first | subst eo17 | (injection eo17 with f1_ f2_ f3_; have f4_ := f1_.symm; have f5_ := f3_.symm; clear f1_ f2_ f3_; subst f4_; subst f5_))
    obtain ⟨Ao18, co18, eo18⟩ := Kd.R_slice HO261.out
    (first | subst eo18 | (injection eo18 with f1_ f2_ f3_; have f4_ := f1_.symm; have f5_ := f3_.symm; clear f1_ f2_ f3_; subst f4_; subst f5_))
    refine hK.out _ _ ⟨(blk_cell BK255.out 0).trans rfl, (blk_cell BK255.out 1).trans rfl, (blk_cell BK255.out 2).trans rfl, (blk_cell BK255.out 3).trans rfl, (blk_cell BK255.out 4).trans rfl, (blk_cell BK255.out 5).trans rfl, (blk_cell BK255.out 6).trans rfl, (blk_cell BK255.out 7).trans rfl, (blk_cell BK255.out 8).trans rfl, (blk_cell BK255.out 9).trans rfl⟩ (fun hHeld => ?_)
    clear hK K
    refine norm_ (a' := ?_) ?_ ?_
    rotate_left
    ·show Act.put _ (some 24) _ = _
     simp only [Act.put, List.setIfInBounds_toArray, List.set_cons_zero, List.set_cons_succ, i64_w, i32_w]
     rfl
    refine one_ (i := 4) (N := some 25) #[true, true, true, true, true, false, false, false, false, false, false, false, false] rfl rfl (one_of HT_.out (by kernel_rfl)) (by decide) (fun K hK => ?_)
    refine goes_ Try.func38 (by kernel_rfl) rfl #[.slice Ao17 t256.length co17, .slice Ao18 t259.length co18] (by rfl) rfl rfl (by (try simp only [List.map_toArray, List.map_cons, List.map_nil]); first | done | rfl | (simp only [List.length_drop, List.length_take]; rfl)) ?_
    with_reducible refine (laws_frWins.calls k _ _ t256 _ _ t259 true _ ?side1 ?side2 ?side3 ?side4 A11.out).mono ?_
    (case side1 => repeat (first | exact (Kd.R_reads' HO258.out).2.2 | (with_reducible refine Kd.C_alloc ?_ _) | (with_reducible refine Kd.C_drewN ?_ _) | (with_reducible refine Kd.C_drew ?_)))
    (case side2 => exact (Kd.R_reads' HO258.out).2.1)
    (case side3 => repeat (first | exact (Kd.R_reads' HO261.out).2.2 | (with_reducible refine Kd.C_alloc ?_ _) | (with_reducible refine Kd.C_drewN ?_ _) | (with_reducible refine Kd.C_drew ?_)))
    (case side4 => exact (Kd.R_reads' HO261.out).2.1)
    rintro e w' ⟨rfl, ⟨nd, rfl⟩⟩
    refine ⟨_, rfl, ?_⟩
    refine hK.out _ _ ⟨(blk_cell BK255.out 0).trans rfl, (blk_cell BK255.out 1).trans rfl, (blk_cell BK255.out 2).trans rfl, (blk_cell BK255.out 3).trans rfl, (blk_cell BK255.out 4).trans rfl, (blk_cell BK255.out 5).trans rfl, (blk_cell BK255.out 6).trans rfl, (blk_cell BK255.out 7).trans rfl, (blk_cell BK255.out 8).trans rfl, (blk_cell BK255.out 9).trans rfl⟩ (fun hHeld => ?_)
    clear hK K
    refine norm_ (a' := ?_) ?_ ?_
    rotate_left
    ·show Act.put _ (some 25) _ = _
     simp only [Act.put, List.setIfInBounds_toArray, List.set_cons_zero, List.set_cons_succ, i64_w, i32_w]
     rfl
    refine pure_ (i := 5) (N := some 26) (v := ?_) (a' := ?_) #[true, true, true, true, true, true, false, false, false, false, false, false, false] rfl rfl (any_of HT_.out (by kernel_rfl)) (fun _ _ _ h => h) (Or.inl ⟨by rfl, ?_⟩) ?_ ?_
    rotate_left
    ·intro w'
     go_simp
     with_reducible rfl
    rotate_left
    ·simp only [Act.put, List.setIfInBounds_toArray, List.set_cons_zero, List.set_cons_succ, i64_w, i32_w]
     rfl
    refine pure_ (i := 6) (N := some 27) (v := ?_) (a' := ?_) #[true, true, true, true, true, true, true, false, false, false, false, false, false] rfl rfl (any_of HT_.out (by kernel_rfl)) (fun _ _ _ h => h) (Or.inl ⟨by rfl, ?_⟩) ?_ ?_
    rotate_left
    ·intro w'
     go_simp
     with_reducible rfl
    rotate_left
    ·simp only [Act.put, List.setIfInBounds_toArray, List.set_cons_zero, List.set_cons_succ, i64_w, i32_w]
     rfl
    refine take_ (i := 7) (N := some 28) (v := ?_) (a' := ?_) #[true, true, true, true, true, true, true, true, false, false, false, false, false] rfl rfl (take_ofW HT_.out HW_.out (by kernel_rfl)) (fun _ _ _ h => h) (Or.inl ⟨by rfl, ?_⟩) hHeld ?_ ?_
    rotate_left
    ·rintro w' ⟨s0, s1, s2, s3, s4, s5, s6, s7, s8, s9⟩
     go_simp
     with_reducible rfl
    rotate_left
    ·simp only [Act.put, List.setIfInBounds_toArray, List.set_cons_zero, List.set_cons_succ, i64_w, i32_w]
     rfl
    refine take_ (i := 9) (N := some 30) (v := ?_) (a' := ?_) #[true, true, true, true, true, true, true, true, false, true, false, false, false] rfl rfl (take_ofW HT_.out HW_.out (by kernel_rfl)) (fun _ _ _ h => h) (Or.inl ⟨by rfl, ?_⟩) hHeld ?_ ?_
    rotate_left
    ·rintro w' ⟨s0, s1, s2, s3, s4, s5, s6, s7, s8, s9⟩
     go_simp
     with_reducible rfl
    rotate_left
    ·simp only [Act.put, List.setIfInBounds_toArray, List.set_cons_zero, List.set_cons_succ, i64_w, i32_w]
     rfl
    refine one_ (i := 8) (N := some 29) #[true, true, true, true, true, true, true, true, true, true, false, false, false] rfl rfl (one_of HT_.out (by kernel_rfl)) (by decide) (fun K hK => ?_)
    refine goes_ Try.func34 (by kernel_rfl) rfl #[.agg #[.int .i64 t244, .int .i64 t245, .int .i64 t246, .int .i64 t247, .int .i64 t248, .int .i64 t249, .int .i64 t250, .bool t251, .int .i64 t252, .int .i64 t253]] (by rfl) rfl rfl (by (try simp only [List.map_toArray, List.map_cons, List.map_nil]); first | done | rfl | (simp only [List.length_drop, List.length_take]; rfl)) ?_
    with_reducible refine (impl_JobOk.calls k t244 t245 t246 t247 t248 t249 t250 t251 t252 t253 t263 _ A13.out).mono ?_
    rintro e w19 ⟨rfl, hb⟩
    refine ⟨_, rfl, ?_⟩
    have n0_ := Aside0.mk (Kd.R_below (by (with_reducible repeat (first | apply Kd.R_alloc | apply Kd.R_drewN | apply Kd.R_drew)); exact HO258.out) hb)
    have n1_ := Aside0.mk (Kd.R_below (by (with_reducible repeat (first | apply Kd.R_alloc | apply Kd.R_drewN | apply Kd.R_drew)); exact HO261.out) hb)
    have n2_ := Aside0.mk (blk_below (g := gb255) (o := .cells #[.int .i64 t244, .int .i64 t245, .int .i64 t246, .int .i64 t247, .int .i64 t248, .int .i64 t249, .int .i64 t250, .bool t251, .int .i64 t252, .int .i64 t253] 50 (0, 0)) (by (with_reducible repeat (first | refine blk_drewN ?_ _ | refine blk_drew ?_ | refine blk_alloc ?_ _)); exact BK255.out) hb)
    have n3_ := Aside0.mk (below_step (by repeat (first | (with_reducible first | exact HB.out | apply below_alloc | apply pw_below_drewN | apply below_drew1 | refine below_set ?_ GE255.out) | exact HB.out)) hb)
    clear HO258
    clear HO261
    clear BK255
    clear HB
    have HO258 := n0_
    have HO261 := n1_
    have BK255 := n2_
    have HB := n3_
    clear n0_ n1_ n2_ n3_
    (try clear hb)
    (try clear hb2)
    (try clear hk)
    (try clear hi)
    refine hK.out _ _ ⟨(blk_cell BK255.out 0).trans rfl, (blk_cell BK255.out 1).trans rfl, (blk_cell BK255.out 2).trans rfl, (blk_cell BK255.out 3).trans rfl, (blk_cell BK255.out 4).trans rfl, (blk_cell BK255.out 5).trans rfl, (blk_cell BK255.out 6).trans rfl, (blk_cell BK255.out 7).trans rfl, (blk_cell BK255.out 8).trans rfl, (blk_cell BK255.out 9).trans rfl⟩ (fun hHeld => ?_)
    clear hK K
    refine norm_ (a' := ?_) ?_ ?_
    rotate_left
    ·show Act.put _ (some 29) _ = _
     simp only [Act.put, List.setIfInBounds_toArray, List.set_cons_zero, List.set_cons_succ, i64_w, i32_w]
     rfl
    refine one_ (i := 10) (N := some 31) #[true, true, true, true, true, true, true, true, true, true, true, false, false] rfl rfl (one_of HT_.out (by kernel_rfl)) (by decide) (fun K hK => ?_)
    refine goes_ Try.func35 (by kernel_rfl) rfl #[.agg #[.int .i64 t244, .int .i64 t245, .int .i64 t246, .int .i64 t247, .int .i64 t248, .int .i64 t249, .int .i64 t250, .bool t251, .int .i64 t252, .int .i64 t253]] (by rfl) rfl rfl (by (try simp only [List.map_toArray, List.map_cons, List.map_nil]); first | done | rfl | (simp only [List.length_drop, List.length_take]; rfl)) ?_
    with_reducible refine (spec_JobOk.calls k t244 t245 t246 t247 t248 t249 t250 t251 t252 t253 t264 _ A14.out).mono ?_
    rintro e w20 ⟨rfl, hb⟩
    refine ⟨_, rfl, ?_⟩
    have n0_ := Aside0.mk (Kd.R_below (by (with_reducible repeat (first | apply Kd.R_alloc | apply Kd.R_drewN | apply Kd.R_drew)); exact HO258.out) hb)
    have n1_ := Aside0.mk (Kd.R_below (by (with_reducible repeat (first | apply Kd.R_alloc | apply Kd.R_drewN | apply Kd.R_drew)); exact HO261.out) hb)
    have n2_ := Aside0.mk (blk_below (g := gb255) (o := .cells #[.int .i64 t244, .int .i64 t245, .int .i64 t246, .int .i64 t247, .int .i64 t248, .int .i64 t249, .int .i64 t250, .bool t251, .int .i64 t252, .int .i64 t253] 50 (0, 0)) (by (with_reducible repeat (first | refine blk_drewN ?_ _ | refine blk_drew ?_ | refine blk_alloc ?_ _)); exact BK255.out) hb)
    have n3_ := Aside0.mk (below_step (by repeat (first | (with_reducible first | exact HB.out | apply below_alloc | apply pw_below_drewN | apply below_drew1 | refine below_set ?_ GE255.out) | exact HB.out)) hb)
    clear HO258
    clear HO261
    clear BK255
    clear HB
    have HO258 := n0_
    have HO261 := n1_
    have BK255 := n2_
    have HB := n3_
    clear n0_ n1_ n2_ n3_
    (try clear hb)
    (try clear hb2)
    (try clear hk)
    (try clear hi)
    refine hK.out _ _ ⟨(blk_cell BK255.out 0).trans rfl, (blk_cell BK255.out 1).trans rfl, (blk_cell BK255.out 2).trans rfl, (blk_cell BK255.out 3).trans rfl, (blk_cell BK255.out 4).trans rfl, (blk_cell BK255.out 5).trans rfl, (blk_cell BK255.out 6).trans rfl, (blk_cell BK255.out 7).trans rfl, (blk_cell BK255.out 8).trans rfl, (blk_cell BK255.out 9).trans rfl⟩ (fun hHeld => ?_)
    clear hK K
    refine norm_ (a' := ?_) ?_ ?_
    rotate_left
    ·show Act.put _ (some 31) _ = _
     simp only [Act.put, List.setIfInBounds_toArray, List.set_cons_zero, List.set_cons_succ, i64_w, i32_w]
     rfl
    refine pure_ (i := 11) (N := some 32) (v := ?_) (a' := ?_) #[true, true, true, true, true, true, true, true, true, true, true, true, false] rfl rfl (any_of HT_.out (by kernel_rfl)) (fun _ _ _ h => h) (Or.inl ⟨by rfl, ?_⟩) ?_ ?_
    rotate_left
    ·intro w'
     go_simp
     with_reducible rfl
    rotate_left
    ·simp only [Act.put, List.setIfInBounds_toArray, List.set_cons_zero, List.set_cons_succ, i64_w, i32_w]
     rfl
    refine pure_ (i := 12) (N := some 33) (v := ?_) (a' := ?_) #[true, true, true, true, true, true, true, true, true, true, true, true, true] rfl rfl (any_of HT_.out (by kernel_rfl)) (fun _ _ _ h => h) (Or.inl ⟨by rfl, ?_⟩) ?_ ?_
    rotate_left
    ·intro w'
     go_simp
     with_reducible rfl
    rotate_left
    ·simp only [Act.put, List.setIfInBounds_toArray, List.set_cons_zero, List.set_cons_succ, i64_w, i32_w]
     rfl
    refine done_ (done_of HT_.out (by kernel_rfl)) ?_
    try go_wp2
    go_meet
    case rel => exact ⟨_, ((t263 != t264)), (by first | rfl | (simp; done) | (simp [*]; done)), H', ⟨by first | omega | exact Nat.le_refl _⟩, ⟨by (with_reducible repeat (first | apply Kd.R_alloc | apply Kd.R_drewN | apply Kd.R_drew)); exact Kd.R_mono HO258.out (fun _ hk => trivial)⟩, ⟨by (with_reducible repeat (first | refine blk_drewN ?_ _ | refine blk_drew ?_ | refine blk_alloc ?_ _)); exact BK255.out⟩, ⟨by repeat (first | (with_reducible first | exact HB.out | apply below_alloc | apply pw_below_drewN | apply below_drew1 | refine below_set ?_ GE255.out) | exact HB.out)⟩⟩
   ·replace c12 := Bool.eq_false_iff.mpr c12
    subst c12
    have H1 : (laws_FnWinOf.j0 k t254 t256 true t244 t245 t246 t247 t248 t249 t250 t251 t252 t253) = some true := by rw [if_neg (show ¬ (false = true) by decide)] at H; exact H
    clear H
    have H := H1
    clear H1
    exact absurd H (by first | (cases k <;> simp [laws_FnWinOf.j0, laws_FnWinOf.j1, laws_FnWinOf.j3]; done))
  case rest =>
   clear HC5
   try clear c1
   try clear c2
   try clear c2b0
   try clear c2b1
   try clear p2
   try clear c3
   try clear c4
   try clear c12
   try clear hcz8_0
   try clear hcz8_1
   try clear hcz8_2
   try clear hcz8_3
   try clear hcz8_4
   try clear hcz8_5
   try clear hcz8_6
   try clear hcz8_7
   try clear hcz8_8
   try clear hcz8_9
   try clear hfz8_0
   try clear hfz8_1
   try clear hfz8_2
   try clear hfz8_3
   try clear hfz8_4
   try clear hfz8_5
   try clear hfz8_6
   try clear hfz8_7
   try clear hfz8_8
   try clear hfz8_9
   obtain ⟨kq, x33_4, rfl, HA, HJ4, HO_5, BK255, HB⟩ := hcut
   cases kq with
   | zero => exact absurd HA.out (by simp [laws_FnWinOf.j0])
   | succ kj4 =>
    have H := HA.out
    clear HA
    simp only [laws_FnWinOf.j0] at H
    by_cases c25 : x33_4 = true
    ·subst c25
     have H1 : (some false) = some true := by rw [if_pos rfl] at H; exact H
     clear H
     have H := H1
     clear H1
     exact absurd H (by simp)
    ·replace c25 := Bool.eq_false_iff.mpr c25
     subst c25
     have H1 : ((spec_JobOk.f kj4 t244 t245 t246 t247 t248 t249 t250 t251 t252 t253).bind fun t265 => (if t265 = true then (if t254 < 0 then (laws_FnWinOf.j1 kj4 t254 t256 true t244 t245 t246 t247 t248 t249 t250 t251 t252 t253) else (laws_FnWinOf.j1 kj4 t254 t256 (decide (t254 > 60)) t244 t245 t246 t247 t248 t249 t250 t251 t252 t253)) else (laws_FnWinOf.j1 kj4 t254 t256 true t244 t245 t246 t247 t248 t249 t250 t251 t252 t253))) = some true := by rw [if_neg (show ¬ (false = true) by decide)] at H; exact H
     clear H
     have H := H1
     clear H1
     have HC26 := Aside0.mk H
     clear H
     go_upto_region 7 with (fail)
     go_cut [44] (fun v44 wc => ∃ (kq : Nat) (x44_25 : Bool), v44 = .bool x44_25 ∧ Aside0 (laws_FnWinOf.j1 kq t254 t256 x44_25 t244 t245 t246 t247 t248 t249 t250 t251 t252 t253 = some true) ∧ Aside0 (kq ≤ kj4) ∧ Aside0 (Kd.R k34 34 wc w.heap.size (fun _ => True) v257 t256) ∧ Aside0 (wc.heap[gb255]? = some (.cells #[.int .i64 t244, .int .i64 t245, .int .i64 t246, .int .i64 t247, .int .i64 t248, .int .i64 t249, .int .i64 t250, .bool t251, .int .i64 t252, .int .i64 t253] 50 (0, 0))) ∧ Aside0 (Below w.heap.size w wc))
     case first =>
      have H := HC26.out
      clear HC26
      replace H := Option.bind_eq_some_iff.mp H
      obtain ⟨t265, A270, H⟩ := H
      replace H : (if t265 = true then (if t254 < 0 then (laws_FnWinOf.j1 kj4 t254 t256 true t244 t245 t246 t247 t248 t249 t250 t251 t252 t253) else (laws_FnWinOf.j1 kj4 t254 t256 (decide (t254 > 60)) t244 t245 t246 t247 t248 t249 t250 t251 t252 t253)) else (laws_FnWinOf.j1 kj4 t254 t256 true t244 t245 t246 t247 t248 t249 t250 t251 t252 t253)) = some true := H
      have A27 := Aside0.mk A270
      clear A270
      by_cases c28 : t265 = true
      ·subst c28
       have H1 : (if t254 < 0 then (laws_FnWinOf.j1 kj4 t254 t256 true t244 t245 t246 t247 t248 t249 t250 t251 t252 t253) else (laws_FnWinOf.j1 kj4 t254 t256 (decide (t254 > 60)) t244 t245 t246 t247 t248 t249 t250 t251 t252 t253)) = some true := by rw [if_pos rfl] at H; exact H
       clear H
       have H := H1
       clear H1
       by_cases c29 : t254 < 0
       ·rw [if_pos c29] at H
        have c29b0 : decide (t254 < 0) = true := decide_eq_true c29
        clear c29
        (first | rw [c29b0] | (simp only [i64_w, i32_w]; rw [c29b0]) | skip)
        have H' := Aside0.mk H
        clear H
        have hcz30_0 : wc.cell? ⟨gb255, 0, none⟩ = some (.int .i64 t244) := (blk_cell BK255.out 0).trans rfl
        have hcz30_1 : wc.cell? ⟨gb255, 1, none⟩ = some (.int .i64 t245) := (blk_cell BK255.out 1).trans rfl
        have hcz30_2 : wc.cell? ⟨gb255, 2, none⟩ = some (.int .i64 t246) := (blk_cell BK255.out 2).trans rfl
        have hcz30_3 : wc.cell? ⟨gb255, 3, none⟩ = some (.int .i64 t247) := (blk_cell BK255.out 3).trans rfl
        have hcz30_4 : wc.cell? ⟨gb255, 4, none⟩ = some (.int .i64 t248) := (blk_cell BK255.out 4).trans rfl
        have hcz30_5 : wc.cell? ⟨gb255, 5, none⟩ = some (.int .i64 t249) := (blk_cell BK255.out 5).trans rfl
        have hcz30_6 : wc.cell? ⟨gb255, 6, none⟩ = some (.int .i64 t250) := (blk_cell BK255.out 6).trans rfl
        have hcz30_7 : wc.cell? ⟨gb255, 7, none⟩ = some (.bool t251) := (blk_cell BK255.out 7).trans rfl
        have hcz30_8 : wc.cell? ⟨gb255, 8, none⟩ = some (.int .i64 t252) := (blk_cell BK255.out 8).trans rfl
        have hcz30_9 : wc.cell? ⟨gb255, 9, none⟩ = some (.int .i64 t253) := (blk_cell BK255.out 9).trans rfl
        have hfz30_0 := blk_frozen BK255.out 0
        have hfz30_1 := blk_frozen BK255.out 1
        have hfz30_2 := blk_frozen BK255.out 2
        have hfz30_3 := blk_frozen BK255.out 3
        have hfz30_4 := blk_frozen BK255.out 4
        have hfz30_5 := blk_frozen BK255.out 5
        have hfz30_6 := blk_frozen BK255.out 6
        have hfz30_7 := blk_frozen BK255.out 7
        have hfz30_8 := blk_frozen BK255.out 8
        have hfz30_9 := blk_frozen BK255.out 9
        go_wp2_with (first | ((with_reducible refine gate_callee (f := 35) rfl ?_); refine goesL_ (some 35) rfl rfl Try.func35 (by kernel_rfl) rfl #[.agg #[.int .i64 t244, .int .i64 t245, .int .i64 t246, .int .i64 t247, .int .i64 t248, .int .i64 t249, .int .i64 t250, .bool t251, .int .i64 t252, .int .i64 t253]] rfl (by (try simp only [List.map_toArray, List.map_cons, List.map_nil]); first | done | rfl | (simp only [List.length_drop, List.length_take]; rfl)) ?_; (with_reducible refine (spec_JobOk.calls kj4 t244 t245 t246 t247 t248 t249 t250 t251 t252 t253 true _ A27.out).mono ?_); rintro e w31 ⟨rfl, hb⟩; refine ⟨_, rfl, ?_⟩; have n0_ := Aside0.mk (Kd.R_below (by (with_reducible repeat (first | apply Kd.R_alloc | apply Kd.R_drewN | apply Kd.R_drew)); exact HO_5.out) hb); have n1_ := Aside0.mk (blk_below (g := gb255) (o := .cells #[.int .i64 t244, .int .i64 t245, .int .i64 t246, .int .i64 t247, .int .i64 t248, .int .i64 t249, .int .i64 t250, .bool t251, .int .i64 t252, .int .i64 t253] 50 (0, 0)) (by (with_reducible repeat (first | refine blk_drewN ?_ _ | refine blk_drew ?_ | refine blk_alloc ?_ _)); exact BK255.out) hb); have n2_ := Aside0.mk (below_step (by repeat (first | (with_reducible first | exact HB.out | apply below_alloc | apply pw_below_drewN | apply below_drew1 | refine below_set ?_ GE255.out) | exact HB.out)) hb); clear HO_5; clear BK255; clear HB; have HO_5 := n0_; have BK255 := n1_; have HB := n2_; clear n0_ n1_ n2_; (try clear hb); (try clear hb2); (try clear hk); (try clear hi)))
        go_meet
        case rel => exact ⟨_, (true), (by first | rfl | (simp; done) | (simp [*]; done)), H', ⟨by have := HJ4.out; first | omega | exact Nat.le_refl _⟩, ⟨by (with_reducible repeat (first | apply Kd.R_alloc | apply Kd.R_drewN | apply Kd.R_drew)); exact HO_5.out⟩, ⟨by (with_reducible repeat (first | refine blk_drewN ?_ _ | refine blk_drew ?_ | refine blk_alloc ?_ _)); exact BK255.out⟩, ⟨by repeat (first | (with_reducible first | exact HB.out | apply below_alloc | apply pw_below_drewN | apply below_drew1 | refine below_set ?_ GE255.out) | exact HB.out)⟩⟩
       ·rw [if_neg c29] at H
        have c29b0 : decide (t254 < 0) = false := decide_eq_false c29
        clear c29
        (first | rw [c29b0] | (simp only [i64_w, i32_w]; rw [c29b0]) | skip)
        have H' := Aside0.mk H
        clear H
        have hcz32_0 : wc.cell? ⟨gb255, 0, none⟩ = some (.int .i64 t244) := (blk_cell BK255.out 0).trans rfl
        have hcz32_1 : wc.cell? ⟨gb255, 1, none⟩ = some (.int .i64 t245) := (blk_cell BK255.out 1).trans rfl
        have hcz32_2 : wc.cell? ⟨gb255, 2, none⟩ = some (.int .i64 t246) := (blk_cell BK255.out 2).trans rfl
        have hcz32_3 : wc.cell? ⟨gb255, 3, none⟩ = some (.int .i64 t247) := (blk_cell BK255.out 3).trans rfl
        have hcz32_4 : wc.cell? ⟨gb255, 4, none⟩ = some (.int .i64 t248) := (blk_cell BK255.out 4).trans rfl
        have hcz32_5 : wc.cell? ⟨gb255, 5, none⟩ = some (.int .i64 t249) := (blk_cell BK255.out 5).trans rfl
        have hcz32_6 : wc.cell? ⟨gb255, 6, none⟩ = some (.int .i64 t250) := (blk_cell BK255.out 6).trans rfl
        have hcz32_7 : wc.cell? ⟨gb255, 7, none⟩ = some (.bool t251) := (blk_cell BK255.out 7).trans rfl
        have hcz32_8 : wc.cell? ⟨gb255, 8, none⟩ = some (.int .i64 t252) := (blk_cell BK255.out 8).trans rfl
        have hcz32_9 : wc.cell? ⟨gb255, 9, none⟩ = some (.int .i64 t253) := (blk_cell BK255.out 9).trans rfl
        have hfz32_0 := blk_frozen BK255.out 0
        have hfz32_1 := blk_frozen BK255.out 1
        have hfz32_2 := blk_frozen BK255.out 2
        have hfz32_3 := blk_frozen BK255.out 3
        have hfz32_4 := blk_frozen BK255.out 4
        have hfz32_5 := blk_frozen BK255.out 5
        have hfz32_6 := blk_frozen BK255.out 6
        have hfz32_7 := blk_frozen BK255.out 7
        have hfz32_8 := blk_frozen BK255.out 8
        have hfz32_9 := blk_frozen BK255.out 9
        go_wp2_with (first | ((with_reducible refine gate_callee (f := 35) rfl ?_); refine goesL_ (some 35) rfl rfl Try.func35 (by kernel_rfl) rfl #[.agg #[.int .i64 t244, .int .i64 t245, .int .i64 t246, .int .i64 t247, .int .i64 t248, .int .i64 t249, .int .i64 t250, .bool t251, .int .i64 t252, .int .i64 t253]] rfl (by (try simp only [List.map_toArray, List.map_cons, List.map_nil]); first | done | rfl | (simp only [List.length_drop, List.length_take]; rfl)) ?_; (with_reducible refine (spec_JobOk.calls kj4 t244 t245 t246 t247 t248 t249 t250 t251 t252 t253 true _ A27.out).mono ?_); rintro e w33 ⟨rfl, hb⟩; refine ⟨_, rfl, ?_⟩; have n0_ := Aside0.mk (Kd.R_below (by (with_reducible repeat (first | apply Kd.R_alloc | apply Kd.R_drewN | apply Kd.R_drew)); exact HO_5.out) hb); have n1_ := Aside0.mk (blk_below (g := gb255) (o := .cells #[.int .i64 t244, .int .i64 t245, .int .i64 t246, .int .i64 t247, .int .i64 t248, .int .i64 t249, .int .i64 t250, .bool t251, .int .i64 t252, .int .i64 t253] 50 (0, 0)) (by (with_reducible repeat (first | refine blk_drewN ?_ _ | refine blk_drew ?_ | refine blk_alloc ?_ _)); exact BK255.out) hb); have n2_ := Aside0.mk (below_step (by repeat (first | (with_reducible first | exact HB.out | apply below_alloc | apply pw_below_drewN | apply below_drew1 | refine below_set ?_ GE255.out) | exact HB.out)) hb); clear HO_5; clear BK255; clear HB; have HO_5 := n0_; have BK255 := n1_; have HB := n2_; clear n0_ n1_ n2_; (try clear hb); (try clear hb2); (try clear hk); (try clear hi)))
        go_meet
        case rel => exact ⟨_, (decide (t254 > 60)), (by first | rfl | (simp; done) | (simp [*]; done)), H', ⟨by have := HJ4.out; first | omega | exact Nat.le_refl _⟩, ⟨by (with_reducible repeat (first | apply Kd.R_alloc | apply Kd.R_drewN | apply Kd.R_drew)); exact HO_5.out⟩, ⟨by (with_reducible repeat (first | refine blk_drewN ?_ _ | refine blk_drew ?_ | refine blk_alloc ?_ _)); exact BK255.out⟩, ⟨by repeat (first | (with_reducible first | exact HB.out | apply below_alloc | apply pw_below_drewN | apply below_drew1 | refine below_set ?_ GE255.out) | exact HB.out)⟩⟩
      ·replace c28 := Bool.eq_false_iff.mpr c28
       subst c28
       have H1 : (laws_FnWinOf.j1 kj4 t254 t256 true t244 t245 t246 t247 t248 t249 t250 t251 t252 t253) = some true := by rw [if_neg (show ¬ (false = true) by decide)] at H; exact H
       clear H
       have H := H1
       clear H1
       have H' := Aside0.mk H
       clear H
       have hcz34_0 : wc.cell? ⟨gb255, 0, none⟩ = some (.int .i64 t244) := (blk_cell BK255.out 0).trans rfl
       have hcz34_1 : wc.cell? ⟨gb255, 1, none⟩ = some (.int .i64 t245) := (blk_cell BK255.out 1).trans rfl
       have hcz34_2 : wc.cell? ⟨gb255, 2, none⟩ = some (.int .i64 t246) := (blk_cell BK255.out 2).trans rfl
       have hcz34_3 : wc.cell? ⟨gb255, 3, none⟩ = some (.int .i64 t247) := (blk_cell BK255.out 3).trans rfl
       have hcz34_4 : wc.cell? ⟨gb255, 4, none⟩ = some (.int .i64 t248) := (blk_cell BK255.out 4).trans rfl
       have hcz34_5 : wc.cell? ⟨gb255, 5, none⟩ = some (.int .i64 t249) := (blk_cell BK255.out 5).trans rfl
       have hcz34_6 : wc.cell? ⟨gb255, 6, none⟩ = some (.int .i64 t250) := (blk_cell BK255.out 6).trans rfl
       have hcz34_7 : wc.cell? ⟨gb255, 7, none⟩ = some (.bool t251) := (blk_cell BK255.out 7).trans rfl
       have hcz34_8 : wc.cell? ⟨gb255, 8, none⟩ = some (.int .i64 t252) := (blk_cell BK255.out 8).trans rfl
       have hcz34_9 : wc.cell? ⟨gb255, 9, none⟩ = some (.int .i64 t253) := (blk_cell BK255.out 9).trans rfl
       have hfz34_0 := blk_frozen BK255.out 0
       have hfz34_1 := blk_frozen BK255.out 1
       have hfz34_2 := blk_frozen BK255.out 2
       have hfz34_3 := blk_frozen BK255.out 3
       have hfz34_4 := blk_frozen BK255.out 4
       have hfz34_5 := blk_frozen BK255.out 5
       have hfz34_6 := blk_frozen BK255.out 6
       have hfz34_7 := blk_frozen BK255.out 7
       have hfz34_8 := blk_frozen BK255.out 8
       have hfz34_9 := blk_frozen BK255.out 9
       go_wp2_with (first | ((with_reducible refine gate_callee (f := 35) rfl ?_); refine goesL_ (some 35) rfl rfl Try.func35 (by kernel_rfl) rfl #[.agg #[.int .i64 t244, .int .i64 t245, .int .i64 t246, .int .i64 t247, .int .i64 t248, .int .i64 t249, .int .i64 t250, .bool t251, .int .i64 t252, .int .i64 t253]] rfl (by (try simp only [List.map_toArray, List.map_cons, List.map_nil]); first | done | rfl | (simp only [List.length_drop, List.length_take]; rfl)) ?_; (with_reducible refine (spec_JobOk.calls kj4 t244 t245 t246 t247 t248 t249 t250 t251 t252 t253 false _ A27.out).mono ?_); rintro e w35 ⟨rfl, hb⟩; refine ⟨_, rfl, ?_⟩; have n0_ := Aside0.mk (Kd.R_below (by (with_reducible repeat (first | apply Kd.R_alloc | apply Kd.R_drewN | apply Kd.R_drew)); exact HO_5.out) hb); have n1_ := Aside0.mk (blk_below (g := gb255) (o := .cells #[.int .i64 t244, .int .i64 t245, .int .i64 t246, .int .i64 t247, .int .i64 t248, .int .i64 t249, .int .i64 t250, .bool t251, .int .i64 t252, .int .i64 t253] 50 (0, 0)) (by (with_reducible repeat (first | refine blk_drewN ?_ _ | refine blk_drew ?_ | refine blk_alloc ?_ _)); exact BK255.out) hb); have n2_ := Aside0.mk (below_step (by repeat (first | (with_reducible first | exact HB.out | apply below_alloc | apply pw_below_drewN | apply below_drew1 | refine below_set ?_ GE255.out) | exact HB.out)) hb); clear HO_5; clear BK255; clear HB; have HO_5 := n0_; have BK255 := n1_; have HB := n2_; clear n0_ n1_ n2_; (try clear hb); (try clear hb2); (try clear hk); (try clear hi)))
       go_meet
       case rel => exact ⟨_, (true), (by first | rfl | (simp; done) | (simp [*]; done)), H', ⟨by have := HJ4.out; first | omega | exact Nat.le_refl _⟩, ⟨by (with_reducible repeat (first | apply Kd.R_alloc | apply Kd.R_drewN | apply Kd.R_drew)); exact HO_5.out⟩, ⟨by (with_reducible repeat (first | refine blk_drewN ?_ _ | refine blk_drew ?_ | refine blk_alloc ?_ _)); exact BK255.out⟩, ⟨by repeat (first | (with_reducible first | exact HB.out | apply below_alloc | apply pw_below_drewN | apply below_drew1 | refine below_set ?_ GE255.out) | exact HB.out)⟩⟩
     case rest =>
      clear HC26
      try clear c1
      try clear c2
      try clear c2b0
      try clear c2b1
      try clear p2
      try clear c3
      try clear c4
      try clear c12
      try clear c25
      try clear c28
      try clear c29
      try clear c29b0
      try clear c33
      try clear c34
      try clear c35
      try clear hcz30_0
      try clear hcz30_1
      try clear hcz30_2
      try clear hcz30_3
      try clear hcz30_4
      try clear hcz30_5
      try clear hcz30_6
      try clear hcz30_7
      try clear hcz30_8
      try clear hcz30_9
      try clear hcz32_0
      try clear hcz32_1
      try clear hcz32_2
      try clear hcz32_3
      try clear hcz32_4
      try clear hcz32_5
      try clear hcz32_6
      try clear hcz32_7
      try clear hcz32_8
      try clear hcz32_9
      try clear hcz34_0
      try clear hcz34_1
      try clear hcz34_2
      try clear hcz34_3
      try clear hcz34_4
      try clear hcz34_5
      try clear hcz34_6
      try clear hcz34_7
      try clear hcz34_8
      try clear hcz34_9
      try clear hcz8_0
      try clear hcz8_1
      try clear hcz8_2
      try clear hcz8_3
      try clear hcz8_4
      try clear hcz8_5
      try clear hcz8_6
      try clear hcz8_7
      try clear hcz8_8
      try clear hcz8_9
      try clear hfz30_0
      try clear hfz30_1
      try clear hfz30_2
      try clear hfz30_3
      try clear hfz30_4
      try clear hfz30_5
      try clear hfz30_6
      try clear hfz30_7
      try clear hfz30_8
      try clear hfz30_9
      try clear hfz32_0
      try clear hfz32_1
      try clear hfz32_2
      try clear hfz32_3
      try clear hfz32_4
      try clear hfz32_5
      try clear hfz32_6
      try clear hfz32_7
      try clear hfz32_8
      try clear hfz32_9
      try clear hfz34_0
      try clear hfz34_1
      try clear hfz34_2
      try clear hfz34_3
      try clear hfz34_4
      try clear hfz34_5
      try clear hfz34_6
      try clear hfz34_7
      try clear hfz34_8
      try clear hfz34_9
      try clear hfz8_0
      try clear hfz8_1
      try clear hfz8_2
      try clear hfz8_3
      try clear hfz8_4
      try clear hfz8_5
      try clear hfz8_6
      try clear hfz8_7
      try clear hfz8_8
      try clear hfz8_9
      try clear p2
      obtain ⟨kq, x44_25, rfl, HA, HJ25, HO_5, BK255, HB⟩ := hcut
      cases kq with
      | zero => exact absurd HA.out (by simp [laws_FnWinOf.j1])
      | succ kj25 =>
       have H := HA.out
       clear HA
       simp only [laws_FnWinOf.j1] at H
       by_cases c36 : x44_25 = true
       ·subst c36
        have H1 : (if (t256.length : Int) = 0 then ((laws_frOk.f).bind fun t266 => (some t266)) else (some false)) = some true := by rw [if_pos rfl] at H; exact H
        clear H
        have H := H1
        clear H1
        by_cases c37 : (t256.length : Int) = 0
        ·rw [if_pos c37] at H
         have c37b0 : ((t256.length : Int) == 0) = true := beq_iff_eq.mpr c37
         have c37b1 : ((t256.length : Int) != 0) = false := bne_eq_false_iff_eq.mpr c37
         clear c37
         replace H := Option.bind_eq_some_iff.mp H
         obtain ⟨t266, A380, H⟩ := H
         replace H : (some t266) = some true := H
         have A38 := Aside0.mk A380
         clear A380
         have hrt_ := Aside0.mk (Option.some.inj H)
         clear H
         obtain ⟨Ao39, co39, eo39⟩ := Kd.R_slice HO_5.out
         subst eo39
         go_wp2_with (first | (go_at_call 37; (with_reducible refine (laws_frOk.calls  t266 _ A38.out).mono ?_); rintro e w40 ⟨rfl, hb⟩; have n0_ := Aside0.mk (Kd.R_below (by (with_reducible repeat (first | apply Kd.R_alloc | apply Kd.R_drewN | apply Kd.R_drew)); exact HO_5.out) hb); have n1_ := Aside0.mk (blk_below (g := gb255) (o := .cells #[.int .i64 t244, .int .i64 t245, .int .i64 t246, .int .i64 t247, .int .i64 t248, .int .i64 t249, .int .i64 t250, .bool t251, .int .i64 t252, .int .i64 t253] 50 (0, 0)) (by (with_reducible repeat (first | refine blk_drewN ?_ _ | refine blk_drew ?_ | refine blk_alloc ?_ _)); exact BK255.out) hb); have n2_ := Aside0.mk (below_step (by repeat (first | (with_reducible first | exact HB.out | apply below_alloc | apply pw_below_drewN | apply below_drew1 | refine below_set ?_ GE255.out) | exact HB.out)) hb); clear HO_5; clear BK255; clear HB; have HO_5 := n0_; have BK255 := n1_; have HB := n2_; clear n0_ n1_ n2_; (try clear hb); (try clear hb2); (try clear hk); (try clear hi)))
         go_ret
         exact ⟨by first | rfl | (refine congrArg (fun b_ => Ending.returned (Value.bool b_)) ?_; first | exact hrt_.out | simpa using hrt_.out | (have hq_ := hrt_.out; simp at hq_ ⊢; omega)) | (simp [errW_none, errW_some] <;> rfl) | (simp [*, errW_none, errW_some] <;> rfl), by repeat (first | (with_reducible first | exact HB.out | apply below_alloc | apply pw_below_drewN | apply below_drew1 | refine below_set ?_ GE255.out) | exact HB.out)⟩
        ·rw [if_neg c37] at H
         have c37b0 : ((t256.length : Int) == 0) = false := beq_eq_false_iff_ne.mpr c37
         have c37b1 : ((t256.length : Int) != 0) = true := bne_iff_ne.mpr c37
         have c37b2 : ¬ (t256 = []) := fun h_ => c37 (by rw [h_]; rfl)
         exact absurd H (by simp)
       ·replace c36 := Bool.eq_false_iff.mpr c36
        subst c36
        have H1 : (laws_FnWinOf.l0 kj25 t254 t256 0 t244 t245 t246 t247 t248 t249 t250 t251 t252 t253) = some true := by rw [if_neg (show ¬ (false = true) by decide)] at H; exact H
        clear H
        have H := H1
        clear H1
        have H' := Aside0.mk H
        clear H
        go_wp2
        go_loopg [6] kj25 (fun kq v6 w' => ∃ (x6_3 : Int), v6 = .int .i64 x6_3 ∧ Aside0 (laws_FnWinOf.l0 kq t254 t256 x6_3 t244 t245 t246 t247 t248 t249 t250 t251 t252 t253 = some true) ∧ Aside0 (kq ≤ kj25) ∧ Aside0 (Kd.R k34 34 w' w.heap.size (fun _ => True) v257 t256) ∧ Aside0 (w'.heap[gb255]? = some (.cells #[.int .i64 t244, .int .i64 t245, .int .i64 t246, .int .i64 t247, .int .i64 t248, .int .i64 t249, .int .i64 t250, .bool t251, .int .i64 t252, .int .i64 t253] 50 (0, 0))) ∧ Aside0 (Below w.heap.size w w'))
        case atStart => exact ⟨(0), (by first | rfl | (simp; done) | (simp [*]; done)), H', ⟨Nat.le_refl _⟩, ⟨by (with_reducible repeat (first | apply Kd.R_alloc | apply Kd.R_drewN | apply Kd.R_drew)); exact HO_5.out⟩, ⟨by (with_reducible repeat (first | refine blk_drewN ?_ _ | refine blk_drew ?_ | refine blk_alloc ?_ _)); exact BK255.out⟩, ⟨by repeat (first | (with_reducible first | exact HB.out | apply below_alloc | apply pw_below_drewN | apply below_drew1 | refine below_set ?_ GE255.out) | exact HB.out)⟩⟩
        case round =>
         clear H'
         try clear c1
         try clear c2
         try clear c2b0
         try clear c2b1
         try clear p2
         try clear c3
         try clear c4
         try clear c12
         try clear c25
         try clear c28
         try clear c29
         try clear c29b0
         try clear c33
         try clear c34
         try clear c35
         try clear c36
         try clear c37
         try clear c37b0
         try clear c37b1
         try clear c37b2
         try clear c38
         try clear c40
         try clear hcz30_0
         try clear hcz30_1
         try clear hcz30_2
         try clear hcz30_3
         try clear hcz30_4
         try clear hcz30_5
         try clear hcz30_6
         try clear hcz30_7
         try clear hcz30_8
         try clear hcz30_9
         try clear hcz32_0
         try clear hcz32_1
         try clear hcz32_2
         try clear hcz32_3
         try clear hcz32_4
         try clear hcz32_5
         try clear hcz32_6
         try clear hcz32_7
         try clear hcz32_8
         try clear hcz32_9
         try clear hcz34_0
         try clear hcz34_1
         try clear hcz34_2
         try clear hcz34_3
         try clear hcz34_4
         try clear hcz34_5
         try clear hcz34_6
         try clear hcz34_7
         try clear hcz34_8
         try clear hcz34_9
         try clear hcz8_0
         try clear hcz8_1
         try clear hcz8_2
         try clear hcz8_3
         try clear hcz8_4
         try clear hcz8_5
         try clear hcz8_6
         try clear hcz8_7
         try clear hcz8_8
         try clear hcz8_9
         try clear hfz30_0
         try clear hfz30_1
         try clear hfz30_2
         try clear hfz30_3
         try clear hfz30_4
         try clear hfz30_5
         try clear hfz30_6
         try clear hfz30_7
         try clear hfz30_8
         try clear hfz30_9
         try clear hfz32_0
         try clear hfz32_1
         try clear hfz32_2
         try clear hfz32_3
         try clear hfz32_4
         try clear hfz32_5
         try clear hfz32_6
         try clear hfz32_7
         try clear hfz32_8
         try clear hfz32_9
         try clear hfz34_0
         try clear hfz34_1
         try clear hfz34_2
         try clear hfz34_3
         try clear hfz34_4
         try clear hfz34_5
         try clear hfz34_6
         try clear hfz34_7
         try clear hfz34_8
         try clear hfz34_9
         try clear hfz8_0
         try clear hfz8_1
         try clear hfz8_2
         try clear hfz8_3
         try clear hfz8_4
         try clear hfz8_5
         try clear hfz8_6
         try clear hfz8_7
         try clear hfz8_8
         try clear hfz8_9
         try clear p2
         obtain ⟨x6_3, rfl, HA, HK3, HO_5, BK255, HB⟩ := hrel
         cases gk with
         | zero => exact absurd HA.out (by simp [laws_FnWinOf.l0])
         | succ k3 =>
          have H := HA.out
          clear HA
          simp only [laws_FnWinOf.l0] at H
          by_cases c41 : x6_3 < (t256.length : Int)
          ·rw [if_pos c41] at H
           have c41b0 : decide (x6_3 < (t256.length : Int)) = true := decide_eq_true c41
           clear c41
           by_cases c42 : 0 ≤ x6_3
           ·rw [if_pos c42] at H
            have c42b0 : decide (0 ≤ x6_3) = true := decide_eq_true c42
            clear c42
            have HC43 := Aside0.mk H
            clear H
            obtain ⟨Ao44, co44, eo44⟩ := Kd.R_slice HO_5.out
            subst eo44
            have p267 : 0 ≤ (x6_3 : Int) := of_decide_eq_true (by first | (with_reducible assumption) | assumption)
            have q267 : x6_3 < (t256.length : Int) := of_decide_eq_true (by first | (with_reducible assumption) | assumption)
            obtain ⟨ad267, e267, hx267_0, hx267_1⟩ := at_T34 (Kd.R_reads' HO_5.out).2.2 x6_3 p267 q267
            cases e267
            replace p267 := eq_true p267
            replace q267 := eq_true q267
            go_upto_region 13 with (first | ((with_reducible refine gate_dst (N := 7) rfl ?_); refine box_event ?hg (N := 7) ?hd (cs := #[.int .i64 0, .int .i64 0]) (t := 34) ?hr ?_; (case hd => rfl); (case hg => rfl); (case hr => first | (go_simp; done) | (go_simp; rfl)); intro gb268 hg w45 hbox hb; have n0_ := Aside0.mk (Kd.R_below (Kd.R_elderB (by (with_reducible repeat (first | apply Kd.R_alloc | apply Kd.R_drewN | apply Kd.R_drew)); exact HO_5.out) gb268 (Nat.le_of_eq hg.symm)) hb); have n1_ := Aside0.mk (blk_below (g := gb255) (o := .cells #[.int .i64 t244, .int .i64 t245, .int .i64 t246, .int .i64 t247, .int .i64 t248, .int .i64 t249, .int .i64 t250, .bool t251, .int .i64 t252, .int .i64 t253] 50 (0, 0)) (by (with_reducible repeat (first | refine blk_drewN ?_ _ | refine blk_drew ?_ | refine blk_alloc ?_ _)); exact BK255.out) hb); have n2_ := Aside0.mk (below_step (by repeat (first | (with_reducible first | exact HB.out | apply below_alloc | apply pw_below_drewN | apply below_drew1 | refine below_set ?_ GE255.out) | exact HB.out)) hb); have n3_ := Aside0.mk (hbox); have n4_ := Aside0.mk ((by rw [hg]; exact (below_size (by repeat (first | (with_reducible first | exact HB.out | apply below_alloc | apply pw_below_drewN | apply below_drew1 | refine below_set ?_ GE255.out) | exact HB.out))) : w.heap.size ≤ gb268)); have n5_ := Aside0.mk ((by rw [hg]; exact (below_size (by repeat (first | (with_reducible first | exact HB.out | apply below_alloc | apply pw_below_drewN | apply below_drew1 | refine below_set ?_ GE255.out) | exact HB.out))) : w.heap.size ≤ gb268)); have n6_ := Aside0.mk ((by rw [hg]; exact Nat.ne_of_lt (blk_lt (g := gb255) (o := .cells #[.int .i64 t244, .int .i64 t245, .int .i64 t246, .int .i64 t247, .int .i64 t248, .int .i64 t249, .int .i64 t250, .bool t251, .int .i64 t252, .int .i64 t253] 50 (0, 0)) (by (with_reducible repeat (first | refine blk_drewN ?_ _ | refine blk_drew ?_ | refine blk_alloc ?_ _)); exact BK255.out)) : gb255 ≠ gb268)); have n7_ := Aside0.mk ((by rw [hg]; exact Nat.ne_of_gt (blk_lt (g := gb255) (o := .cells #[.int .i64 t244, .int .i64 t245, .int .i64 t246, .int .i64 t247, .int .i64 t248, .int .i64 t249, .int .i64 t250, .bool t251, .int .i64 t252, .int .i64 t253] 50 (0, 0)) (by (with_reducible repeat (first | refine blk_drewN ?_ _ | refine blk_drew ?_ | refine blk_alloc ?_ _)); exact BK255.out)) : gb268 ≠ gb255)); clear HO_5; clear BK255; clear HB; have HO_5 := n0_; have BK255 := n1_; have HB := n2_; have BK268 := n3_; have GW268 := n4_; have GE268 := n5_; have NB255_268 := n6_; have NB268_255 := n7_; clear n0_ n1_ n2_ n3_ n4_ n5_ n6_ n7_; clear hb hbox hg; have hnb46 := NB268_255.out; have hnc46 := NB255_268.out; have hcz47_0 : w45.cell? ⟨gb268, 0, none⟩ = some (.int .i64 0) := (blk_cell BK268.out 0).trans rfl; have hcz47_1 : w45.cell? ⟨gb268, 1, none⟩ = some (.int .i64 0) := (blk_cell BK268.out 1).trans rfl; have hfz47_0 := blk_frozen BK268.out 0; have hfz47_1 := blk_frozen BK268.out 1))
            (try simp only [Act.put, List.setIfInBounds_toArray, List.set_cons_zero, List.set_cons_succ])
            go_cut [100] (fun v100 wc => ∃ (kq : Nat) (x100_42 : Bool), v100 = .bool x100_42 ∧ Aside0 (laws_FnWinOf.j3 kq t254 t256 x6_3 x100_42 t244 t245 t246 t247 t248 t249 t250 t251 t252 t253 ((rd_T34 t256 x6_3).f0) ((rd_T34 t256 x6_3).f1) = some true) ∧ Aside0 (kq ≤ k3) ∧ Aside0 (Kd.R k34 34 wc w.heap.size (fun k_ => k_ ≠ gb268) (.slice (some ad267) t256.length co44) t256) ∧ Aside0 (wc.heap[gb255]? = some (.cells #[.int .i64 t244, .int .i64 t245, .int .i64 t246, .int .i64 t247, .int .i64 t248, .int .i64 t249, .int .i64 t250, .bool t251, .int .i64 t252, .int .i64 t253] 50 (0, 0))) ∧ Aside0 (wc.heap[gb268]? = some (.cells #[.int .i64 ((rd_T34 t256 x6_3).f0), .int .i64 ((rd_T34 t256 x6_3).f1)] 34 (0, 0))) ∧ Aside0 (Below w.heap.size w wc))
            case first =>
             have H := HC43.out
             clear HC43
             replace H := Option.bind_eq_some_iff.mp H
             obtain ⟨t269, A480, H⟩ := H
             replace H : (if t269 = true then (if t254 < ((rd_T34 t256 x6_3).f0) then (laws_FnWinOf.j3 k3 t254 t256 x6_3 true t244 t245 t246 t247 t248 t249 t250 t251 t252 t253 ((rd_T34 t256 x6_3).f0) ((rd_T34 t256 x6_3).f1)) else (if t254 ≥ ((rd_T34 t256 x6_3).f1) then (laws_FnWinOf.j3 k3 t254 t256 x6_3 true t244 t245 t246 t247 t248 t249 t250 t251 t252 t253 ((rd_T34 t256 x6_3).f0) ((rd_T34 t256 x6_3).f1)) else (if (wrap64 (((rd_T34 t256 x6_3).f1) - ((rd_T34 t256 x6_3).f0))) = t247 then (if x6_3 > 0 then (if 0 ≤ (wrap64 (x6_3 - 1)) then (if (wrap64 (x6_3 - 1)) < (t256.length : Int) then (laws_FnWinOf.j3 k3 t254 t256 x6_3 (decide (((rd_T34 t256 (wrap64 (x6_3 - 1))).f0) ≥ ((rd_T34 t256 x6_3).f0))) t244 t245 t246 t247 t248 t249 t250 t251 t252 t253 ((rd_T34 t256 x6_3).f0) ((rd_T34 t256 x6_3).f1)) else (none)) else (none)) else (laws_FnWinOf.j3 k3 t254 t256 x6_3 false t244 t245 t246 t247 t248 t249 t250 t251 t252 t253 ((rd_T34 t256 x6_3).f0) ((rd_T34 t256 x6_3).f1))) else (laws_FnWinOf.j3 k3 t254 t256 x6_3 true t244 t245 t246 t247 t248 t249 t250 t251 t252 t253 ((rd_T34 t256 x6_3).f0) ((rd_T34 t256 x6_3).f1))))) else (laws_FnWinOf.j3 k3 t254 t256 x6_3 true t244 t245 t246 t247 t248 t249 t250 t251 t252 t253 ((rd_T34 t256 x6_3).f0) ((rd_T34 t256 x6_3).f1))) = some true := H
             have A48 := Aside0.mk A480
             clear A480
             by_cases c49 : t269 = true
             ·subst c49
              have H1 : (if t254 < ((rd_T34 t256 x6_3).f0) then (laws_FnWinOf.j3 k3 t254 t256 x6_3 true t244 t245 t246 t247 t248 t249 t250 t251 t252 t253 ((rd_T34 t256 x6_3).f0) ((rd_T34 t256 x6_3).f1)) else (if t254 ≥ ((rd_T34 t256 x6_3).f1) then (laws_FnWinOf.j3 k3 t254 t256 x6_3 true t244 t245 t246 t247 t248 t249 t250 t251 t252 t253 ((rd_T34 t256 x6_3).f0) ((rd_T34 t256 x6_3).f1)) else (if (wrap64 (((rd_T34 t256 x6_3).f1) - ((rd_T34 t256 x6_3).f0))) = t247 then (if x6_3 > 0 then (if 0 ≤ (wrap64 (x6_3 - 1)) then (if (wrap64 (x6_3 - 1)) < (t256.length : Int) then (laws_FnWinOf.j3 k3 t254 t256 x6_3 (decide (((rd_T34 t256 (wrap64 (x6_3 - 1))).f0) ≥ ((rd_T34 t256 x6_3).f0))) t244 t245 t246 t247 t248 t249 t250 t251 t252 t253 ((rd_T34 t256 x6_3).f0) ((rd_T34 t256 x6_3).f1)) else (none)) else (none)) else (laws_FnWinOf.j3 k3 t254 t256 x6_3 false t244 t245 t246 t247 t248 t249 t250 t251 t252 t253 ((rd_T34 t256 x6_3).f0) ((rd_T34 t256 x6_3).f1))) else (laws_FnWinOf.j3 k3 t254 t256 x6_3 true t244 t245 t246 t247 t248 t249 t250 t251 t252 t253 ((rd_T34 t256 x6_3).f0) ((rd_T34 t256 x6_3).f1))))) = some true := by rw [if_pos rfl] at H; exact H
              clear H
              have H := H1
              clear H1
              by_cases c50 : t254 < ((rd_T34 t256 x6_3).f0)
              ·rw [if_pos c50] at H
               have c50b0 : decide (t254 < ((rd_T34 t256 x6_3).f0)) = true := decide_eq_true c50
               clear c50
               (first | rw [c50b0] | (simp only [i64_w, i32_w]; rw [c50b0]) | skip)
               exact absurd H (by first | (cases k3 <;> simp [laws_FnWinOf.j0, laws_FnWinOf.j1, laws_FnWinOf.j3]; done) | (cases kj25 <;> simp [laws_FnWinOf.j0, laws_FnWinOf.j1, laws_FnWinOf.j3]; done) | (cases k <;> simp [laws_FnWinOf.j0, laws_FnWinOf.j1, laws_FnWinOf.j3]; done))
              ·rw [if_neg c50] at H
               have c50b0 : decide (t254 < ((rd_T34 t256 x6_3).f0)) = false := decide_eq_false c50
               clear c50
               (first | rw [c50b0] | (simp only [i64_w, i32_w]; rw [c50b0]) | skip)
               by_cases c54 : t254 ≥ ((rd_T34 t256 x6_3).f1)
               ·rw [if_pos c54] at H
                have c54b0 : decide (((rd_T34 t256 x6_3).f1) ≤ t254) = true := decide_eq_true c54
                clear c54
                exact absurd H (by first | (cases k3 <;> simp [laws_FnWinOf.j0, laws_FnWinOf.j1, laws_FnWinOf.j3]; done) | (cases kj25 <;> simp [laws_FnWinOf.j0, laws_FnWinOf.j1, laws_FnWinOf.j3]; done) | (cases k <;> simp [laws_FnWinOf.j0, laws_FnWinOf.j1, laws_FnWinOf.j3]; done))
               ·rw [if_neg c54] at H
                have c54b0 : decide (((rd_T34 t256 x6_3).f1) ≤ t254) = false := decide_eq_false c54
                clear c54
                by_cases c58 : (wrap64 (((rd_T34 t256 x6_3).f1) - ((rd_T34 t256 x6_3).f0))) = t247
                ·rw [if_pos c58] at H
                 have c58b0 : ((wrap64 (((rd_T34 t256 x6_3).f1) - ((rd_T34 t256 x6_3).f0))) == t247) = true := beq_iff_eq.mpr c58
                 have c58b1 : ((wrap64 (((rd_T34 t256 x6_3).f1) - ((rd_T34 t256 x6_3).f0))) != t247) = false := bne_eq_false_iff_eq.mpr c58
                 clear c58
                 by_cases c59 : x6_3 > 0
                 ·rw [if_pos c59] at H
                  have c59b0 : decide (0 < x6_3) = true := decide_eq_true c59
                  clear c59
                  obtain ⟨ji60, hji60⟩ : ∃ j_ : Int, (wrap64 (x6_3 - 1)) = j_ := ⟨_, rfl⟩
                  replace H : (if 0 ≤ (ji60) then (if (ji60) < (t256.length : Int) then (laws_FnWinOf.j3 k3 t254 t256 x6_3 (decide (((rd_T34 t256 (ji60)).f0) ≥ ((rd_T34 t256 x6_3).f0))) t244 t245 t246 t247 t248 t249 t250 t251 t252 t253 ((rd_T34 t256 x6_3).f0) ((rd_T34 t256 x6_3).f1)) else (none)) else (none)) = some true := by first | (rw [hji60] at H; exact H) | (simp only [hji60] at H ⊢; exact H)
                  (try rw [hji60] at A48)
                  have hji60w : (IntKind.i64.wrap (x6_3 - 1)) = ji60 := (i64_w _).trans hji60
                  by_cases c61 : 0 ≤ (ji60)
                  ·rw [if_pos c61] at H
                   have c61b0 : decide (0 ≤ (ji60)) = true := decide_eq_true c61
                   clear c61
                   by_cases c62 : (ji60) < (t256.length : Int)
                   ·rw [if_pos c62] at H
                    have c62b0 : decide ((ji60) < (t256.length : Int)) = true := decide_eq_true c62
                    clear c62
                    have H' := Aside0.mk H
                    clear H
                    try go_wp2
                    have n0_ : Aside0 (Kd.R k34 34 ((w45.setCell ⟨gb268, 0, none⟩ (.int .i64 ((rd_T34 t256 x6_3).f0))).setCell ⟨gb268, 1, none⟩ (.int .i64 ((rd_T34 t256 x6_3).f1))) w.heap.size (fun k_ => k_ ≠ gb268) (.slice (some ad267) t256.length co44) t256) := ⟨by (with_reducible repeat (first | apply Kd.R_alloc | apply Kd.R_drewN | apply Kd.R_drew)); exact Kd.R_mono (Kd.R_far (p := ⟨gb268, 1, none⟩) (Kd.R_far (p := ⟨gb268, 0, none⟩) (Kd.R_mono HO_5.out (fun k_ hk => (⟨hk, hk.2⟩ : _ ∧ k_ ≠ gb268))) (fun _ hk => hk.2) (.int .i64 ((rd_T34 t256 x6_3).f0))) (fun _ hk => hk.2) (.int .i64 ((rd_T34 t256 x6_3).f1))) (fun _ hk => hk.1.2)⟩
                    have n1_ : Aside0 (((w45.setCell ⟨gb268, 0, none⟩ (.int .i64 ((rd_T34 t256 x6_3).f0))).setCell ⟨gb268, 1, none⟩ (.int .i64 ((rd_T34 t256 x6_3).f1))).heap[gb255]? = some (.cells #[.int .i64 t244, .int .i64 t245, .int .i64 t246, .int .i64 t247, .int .i64 t248, .int .i64 t249, .int .i64 t250, .bool t251, .int .i64 t252, .int .i64 t253] 50 (0, 0))) := ⟨by (with_reducible repeat (first | refine blk_drewN ?_ _ | refine blk_drew ?_ | refine blk_alloc ?_ _)); refine blk_far ?_ NB255_268.out _; (with_reducible repeat (first | refine blk_drewN ?_ _ | refine blk_drew ?_ | refine blk_alloc ?_ _)); refine blk_far ?_ NB255_268.out _; (with_reducible repeat (first | refine blk_drewN ?_ _ | refine blk_drew ?_ | refine blk_alloc ?_ _)); exact BK255.out⟩
                    have n2_ : Aside0 (((w45.setCell ⟨gb268, 0, none⟩ (.int .i64 ((rd_T34 t256 x6_3).f0))).setCell ⟨gb268, 1, none⟩ (.int .i64 ((rd_T34 t256 x6_3).f1))).heap[gb268]? = some (.cells #[.int .i64 ((rd_T34 t256 x6_3).f0), .int .i64 ((rd_T34 t256 x6_3).f1)] 34 (0, 0))) := ⟨by (with_reducible repeat (first | refine blk_drewN ?_ _ | refine blk_drew ?_ | refine blk_alloc ?_ _)); refine blk_put (cs := #[.int .i64 ((rd_T34 t256 x6_3).f0), .int .i64 0]) ?_ 1 _ rfl; (with_reducible repeat (first | refine blk_drewN ?_ _ | refine blk_drew ?_ | refine blk_alloc ?_ _)); refine blk_put (cs := #[.int .i64 0, .int .i64 0]) ?_ 0 _ rfl; (with_reducible repeat (first | refine blk_drewN ?_ _ | refine blk_drew ?_ | refine blk_alloc ?_ _)); exact BK268.out⟩
                    have n3_ : Aside0 (Below w.heap.size w ((w45.setCell ⟨gb268, 0, none⟩ (.int .i64 ((rd_T34 t256 x6_3).f0))).setCell ⟨gb268, 1, none⟩ (.int .i64 ((rd_T34 t256 x6_3).f1)))) := ⟨by repeat (first | (with_reducible first | exact HB.out | apply below_alloc | apply pw_below_drewN | apply below_drew1 | refine below_set ?_ GE255.out | refine below_set ?_ GE268.out) | exact HB.out)⟩
                    (try clear HO_5)
                    (try clear BK255)
                    (try clear BK268)
                    (try clear HB)
                    generalize ((w45.setCell ⟨gb268, 0, none⟩ (.int .i64 ((rd_T34 t256 x6_3).f0))).setCell ⟨gb268, 1, none⟩ (.int .i64 ((rd_T34 t256 x6_3).f1))) = w63 at n0_ n1_ n2_ n3_ ⊢
                    have HO_5 := n0_
                    have BK255 := n1_
                    have BK268 := n2_
                    have HB := n3_
                    clear n0_ n1_ n2_ n3_
                    have n0_ := Aside0.mk (Kd.R_drew HO_5.out)
                    have n1_ := Aside0.mk (blk_drew BK255.out)
                    have n2_ := Aside0.mk (blk_drew BK268.out)
                    have n3_ := Aside0.mk (below_drew1 HB.out)
                    clear HO_5
                    clear BK255
                    clear BK268
                    clear HB
                    have HO_5 := n0_
                    have BK255 := n1_
                    have BK268 := n2_
                    have HB := n3_
                    clear n0_ n1_ n2_ n3_
                    have p270 : 0 ≤ ((ji60) : Int) := of_decide_eq_true (by first | (with_reducible assumption) | assumption)
                    have q270 : (ji60) < (t256.length : Int) := of_decide_eq_true (by first | (with_reducible assumption) | assumption)
                    obtain ⟨ad270, e270, hx270_0, hx270_1⟩ := at_T34 (Kd.R_reads' HO_5.out).2.2 (ji60) p270 q270
                    obtain rfl : ad267 = ad270 := (by injection e270)
                    replace p270 := eq_true p270
                    replace q270 := eq_true q270
                    refine start_ (n := 40) (S := fun w' => w'.cell? ⟨gb268, 0, none⟩ = some (.int .i64 ((rd_T34 t256 x6_3).f0)) ∧ w'.cell? ⟨gb268, 1, none⟩ = some (.int .i64 ((rd_T34 t256 x6_3).f1)) ∧ w'.cell? ⟨gb255, 0, none⟩ = some (.int .i64 t244) ∧ w'.cell? ⟨gb255, 1, none⟩ = some (.int .i64 t245) ∧ w'.cell? ⟨gb255, 2, none⟩ = some (.int .i64 t246) ∧ w'.cell? ⟨gb255, 3, none⟩ = some (.int .i64 t247) ∧ w'.cell? ⟨gb255, 4, none⟩ = some (.int .i64 t248) ∧ w'.cell? ⟨gb255, 5, none⟩ = some (.int .i64 t249) ∧ w'.cell? ⟨gb255, 6, none⟩ = some (.int .i64 t250) ∧ w'.cell? ⟨gb255, 7, none⟩ = some (.bool t251) ∧ w'.cell? ⟨gb255, 8, none⟩ = some (.int .i64 t252) ∧ w'.cell? ⟨gb255, 9, none⟩ = some (.int .i64 t253) ∧ w'.cell? (ad267.add (((ji60)).toNat * 2)) = some (.int .i64 ((rd_T34 t256 (ji60)).f0)) ∧ w'.cell? ⟨(ad267.add (((ji60)).toNat * 2)).block, (ad267.add (((ji60)).toNat * 2)).off + 1, none⟩ = some (.int .i64 ((rd_T34 t256 (ji60)).f1))) (ds := []) #[false, false, false, false, false, false, false, false, false, false, false, false, false, false, false, false, false, false, false, false, false, false, false, false, false, false, false, false, false, false, false, false, false, false, false, false, false, false, false, false] (by kernel_rfl) rfl rfl ⟨(blk_cell BK268.out 0).trans rfl, (blk_cell BK268.out 1).trans rfl, (blk_cell BK255.out 0).trans rfl, (blk_cell BK255.out 1).trans rfl, (blk_cell BK255.out 2).trans rfl, (blk_cell BK255.out 3).trans rfl, (blk_cell BK255.out 4).trans rfl, (blk_cell BK255.out 5).trans rfl, (blk_cell BK255.out 6).trans rfl, (blk_cell BK255.out 7).trans rfl, (blk_cell BK255.out 8).trans rfl, (blk_cell BK255.out 9).trans rfl, hx270_0, hx270_1⟩ (fun hHeld => ?_); refine with_tabW laws_FnWinOf.tab13 laws_FnWinOf.bits13 (fun HT_ HW_ => ?_)
                    generalize w63.drew = w64 at HO_5 BK255 BK268 HB hx270_0 hx270_1 hHeld ⊢
                    refine take_ (i := 0) (N := some 61) (v := ?_) (a' := ?_) #[true, false, false, false, false, false, false, false, false, false, false, false, false, false, false, false, false, false, false, false, false, false, false, false, false, false, false, false, false, false, false, false, false, false, false, false, false, false, false, false] rfl rfl (take_ofW HT_.out HW_.out (by kernel_rfl)) (fun _ _ _ h => h) (Or.inl ⟨by rfl, ?_⟩) hHeld ?_ ?_
                    rotate_left
                    ·rintro w' ⟨s0, s1, s2, s3, s4, s5, s6, s7, s8, s9, s10, s11, s12, s13⟩
                     go_simp
                     with_reducible rfl
                    rotate_left
                    ·simp only [Act.put, List.setIfInBounds_toArray, List.set_cons_zero, List.set_cons_succ, i64_w, i32_w]
                     rfl
                    refine one_ (i := 1) (N := some 62) #[true, true, false, false, false, false, false, false, false, false, false, false, false, false, false, false, false, false, false, false, false, false, false, false, false, false, false, false, false, false, false, false, false, false, false, false, false, false, false, false] rfl rfl (one_of HT_.out (by kernel_rfl)) (by decide) (fun K hK => ?_)
                    refine goes_ Try.func55 (by kernel_rfl) rfl #[.agg #[.int .i64 ((rd_T34 t256 x6_3).f0), .int .i64 ((rd_T34 t256 x6_3).f1)]] (by rfl) rfl rfl (by (try simp only [List.map_toArray, List.map_cons, List.map_nil]); first | done | rfl | (simp only [List.length_drop, List.length_take]; rfl)) ?_
                    with_reducible refine (impl_WinOk.calls ((rd_T34 t256 x6_3).f0) ((rd_T34 t256 x6_3).f1) true _ A48.out).mono ?_
                    rintro e w65 ⟨rfl, hb⟩
                    have HS12_ := (hb.cell (World.block_lt_of_cell? _ _ (hHeld.2.2.2.2.2.2.2.2.2.2.2.2.1))).trans (hHeld.2.2.2.2.2.2.2.2.2.2.2.2.1)
                    have HS13_ := (hb.cell (World.block_lt_of_cell? _ _ (hHeld.2.2.2.2.2.2.2.2.2.2.2.2.2))).trans (hHeld.2.2.2.2.2.2.2.2.2.2.2.2.2)
                    refine ⟨_, rfl, ?_⟩
                    have n0_ := Aside0.mk (Kd.R_below (by (with_reducible repeat (first | apply Kd.R_alloc | apply Kd.R_drewN | apply Kd.R_drew)); exact HO_5.out) hb)
                    have n1_ := Aside0.mk (blk_below (g := gb255) (o := .cells #[.int .i64 t244, .int .i64 t245, .int .i64 t246, .int .i64 t247, .int .i64 t248, .int .i64 t249, .int .i64 t250, .bool t251, .int .i64 t252, .int .i64 t253] 50 (0, 0)) (by (with_reducible repeat (first | refine blk_drewN ?_ _ | refine blk_drew ?_ | refine blk_alloc ?_ _)); exact BK255.out) hb)
                    have n2_ := Aside0.mk (blk_below (g := gb268) (o := .cells #[.int .i64 ((rd_T34 t256 x6_3).f0), .int .i64 ((rd_T34 t256 x6_3).f1)] 34 (0, 0)) (by (with_reducible repeat (first | refine blk_drewN ?_ _ | refine blk_drew ?_ | refine blk_alloc ?_ _)); exact BK268.out) hb)
                    have n3_ := Aside0.mk (below_step (by repeat (first | (with_reducible first | exact HB.out | apply below_alloc | apply pw_below_drewN | apply below_drew1 | refine below_set ?_ GE255.out | refine below_set ?_ GE268.out) | exact HB.out)) hb)
                    clear HO_5
                    clear BK255
                    clear BK268
                    clear HB
                    have HO_5 := n0_
                    have BK255 := n1_
                    have BK268 := n2_
                    have HB := n3_
                    clear n0_ n1_ n2_ n3_
                    (try clear hb)
                    (try clear hb2)
                    (try clear hk)
                    (try clear hi)
                    refine hK.out _ _ ⟨(blk_cell BK268.out 0).trans rfl, (blk_cell BK268.out 1).trans rfl, (blk_cell BK255.out 0).trans rfl, (blk_cell BK255.out 1).trans rfl, (blk_cell BK255.out 2).trans rfl, (blk_cell BK255.out 3).trans rfl, (blk_cell BK255.out 4).trans rfl, (blk_cell BK255.out 5).trans rfl, (blk_cell BK255.out 6).trans rfl, (blk_cell BK255.out 7).trans rfl, (blk_cell BK255.out 8).trans rfl, (blk_cell BK255.out 9).trans rfl, HS12_, HS13_⟩ (fun hHeld => ?_)
                    clear hK K
                    refine norm_ (a' := ?_) ?_ ?_
                    rotate_left
                    ·show Act.put _ (some 62) _ = _
                     simp only [Act.put, List.setIfInBounds_toArray, List.set_cons_zero, List.set_cons_succ, i64_w, i32_w]
                     rfl
                    refine pure_ (i := 2) (N := some 63) (v := ?_) (a' := ?_) #[true, true, true, false, false, false, false, false, false, false, false, false, false, false, false, false, false, false, false, false, false, false, false, false, false, false, false, false, false, false, false, false, false, false, false, false, false, false, false, false] rfl rfl (any_of HT_.out (by kernel_rfl)) (fun _ _ _ h => h) (Or.inl ⟨by rfl, ?_⟩) ?_ ?_
                    rotate_left
                    ·intro w'
                     go_simp
                     with_reducible rfl
                    rotate_left
                    ·simp only [Act.put, List.setIfInBounds_toArray, List.set_cons_zero, List.set_cons_succ, i64_w, i32_w]
                     rfl
                    refine pure_ (i := 3) (N := some 64) (v := ?_) (a' := ?_) #[true, true, true, true, false, false, false, false, false, false, false, false, false, false, false, false, false, false, false, false, false, false, false, false, false, false, false, false, false, false, false, false, false, false, false, false, false, false, false, false] rfl rfl (any_of HT_.out (by kernel_rfl)) (fun _ _ _ h => h) (Or.inl ⟨by rfl, ?_⟩) ?_ ?_
                    rotate_left
                    ·intro w'
                     go_simp
                     with_reducible rfl
                    rotate_left
                    ·simp only [Act.put, List.setIfInBounds_toArray, List.set_cons_zero, List.set_cons_succ, i64_w, i32_w]
                     rfl
                    refine pure_ (i := 4) (N := some 65) (v := ?_) (a' := ?_) #[true, true, true, true, true, false, false, false, false, false, false, false, false, false, false, false, false, false, false, false, false, false, false, false, false, false, false, false, false, false, false, false, false, false, false, false, false, false, false, false] rfl rfl (any_of HT_.out (by kernel_rfl)) (fun _ _ _ h => h) (Or.inl ⟨by rfl, ?_⟩) ?_ ?_
                    rotate_left
                    ·intro w'
                     go_simp
                     with_reducible rfl
                    rotate_left
                    ·simp only [Act.put, List.setIfInBounds_toArray, List.set_cons_zero, List.set_cons_succ, i64_w, i32_w]
                     rfl
                    refine pure_ (i := 5) (N := some 66) (v := ?_) (a' := ?_) #[true, true, true, true, true, true, false, false, false, false, false, false, false, false, false, false, false, false, false, false, false, false, false, false, false, false, false, false, false, false, false, false, false, false, false, false, false, false, false, false] rfl rfl (any_of HT_.out (by kernel_rfl)) (fun _ _ _ h => h) (Or.inl ⟨by rfl, ?_⟩) ?_ ?_
                    rotate_left
                    ·intro w'
                     go_simp
                     with_reducible rfl
                    rotate_left
                    ·simp only [Act.put, List.setIfInBounds_toArray, List.set_cons_zero, List.set_cons_succ, i64_w, i32_w]
                     rfl
                    refine take_ (i := 6) (N := some 67) (v := ?_) (a' := ?_) #[true, true, true, true, true, true, true, false, false, false, false, false, false, false, false, false, false, false, false, false, false, false, false, false, false, false, false, false, false, false, false, false, false, false, false, false, false, false, false, false] rfl rfl (take_ofW HT_.out HW_.out (by kernel_rfl)) (fun _ _ _ h => h) (Or.inl ⟨by rfl, ?_⟩) hHeld ?_ ?_
                    rotate_left
                    ·rintro w' ⟨s0, s1, s2, s3, s4, s5, s6, s7, s8, s9, s10, s11, s12, s13⟩
                     go_simp
                     with_reducible rfl
                    rotate_left
                    ·simp only [Act.put, List.setIfInBounds_toArray, List.set_cons_zero, List.set_cons_succ, i64_w, i32_w]
                     rfl
                    refine pure_ (i := 7) (N := some 68) (v := ?_) (a' := ?_) #[true, true, true, true, true, true, true, true, false, false, false, false, false, false, false, false, false, false, false, false, false, false, false, false, false, false, false, false, false, false, false, false, false, false, false, false, false, false, false, false] rfl rfl (any_of HT_.out (by kernel_rfl)) (fun _ _ _ h => h) (Or.inl ⟨by rfl, ?_⟩) ?_ ?_
                    rotate_left
                    ·intro w'
                     go_simp
                     with_reducible rfl
                    rotate_left
                    ·simp only [Act.put, List.setIfInBounds_toArray, List.set_cons_zero, List.set_cons_succ, i64_w, i32_w]
                     rfl
                    refine pure_ (i := 8) (N := some 69) (v := ?_) (a' := ?_) #[true, true, true, true, true, true, true, true, true, false, false, false, false, false, false, false, false, false, false, false, false, false, false, false, false, false, false, false, false, false, false, false, false, false, false, false, false, false, false, false] rfl rfl (any_of HT_.out (by kernel_rfl)) (fun _ _ _ h => h) (Or.inl ⟨by rfl, ?_⟩) ?_ ?_
                    rotate_left
                    ·intro w'
                     go_simp
                     with_reducible rfl
                    rotate_left
                    ·simp only [Act.put, List.setIfInBounds_toArray, List.set_cons_zero, List.set_cons_succ, i64_w, i32_w]
                     rfl
                    refine pure_ (i := 9) (N := some 70) (v := ?_) (a' := ?_) #[true, true, true, true, true, true, true, true, true, true, false, false, false, false, false, false, false, false, false, false, false, false, false, false, false, false, false, false, false, false, false, false, false, false, false, false, false, false, false, false] rfl rfl (any_of HT_.out (by kernel_rfl)) (fun _ _ _ h => h) (Or.inl ⟨by rfl, ?_⟩) ?_ ?_
                    rotate_left
                    ·intro w'
                     go_simp
                     with_reducible rfl
                    rotate_left
                    ·simp only [Act.put, List.setIfInBounds_toArray, List.set_cons_zero, List.set_cons_succ, i64_w, i32_w]
                     rfl
                    refine pure_ (i := 10) (N := some 71) (v := ?_) (a' := ?_) #[true, true, true, true, true, true, true, true, true, true, true, false, false, false, false, false, false, false, false, false, false, false, false, false, false, false, false, false, false, false, false, false, false, false, false, false, false, false, false, false] rfl rfl (any_of HT_.out (by kernel_rfl)) (fun _ _ _ h => h) (Or.inl ⟨by rfl, ?_⟩) ?_ ?_
                    rotate_left
                    ·intro w'
                     go_simp
                     with_reducible rfl
                    rotate_left
                    ·simp only [Act.put, List.setIfInBounds_toArray, List.set_cons_zero, List.set_cons_succ, i64_w, i32_w]
                     rfl
                    refine pure_ (i := 11) (N := some 72) (v := ?_) (a' := ?_) #[true, true, true, true, true, true, true, true, true, true, true, true, false, false, false, false, false, false, false, false, false, false, false, false, false, false, false, false, false, false, false, false, false, false, false, false, false, false, false, false] rfl rfl (any_of HT_.out (by kernel_rfl)) (fun _ _ _ h => h) (Or.inl ⟨by rfl, ?_⟩) ?_ ?_
                    rotate_left
                    ·intro w'
                     go_simp
                     with_reducible rfl
                    rotate_left
                    ·simp only [Act.put, List.setIfInBounds_toArray, List.set_cons_zero, List.set_cons_succ, i64_w, i32_w]
                     rfl
                    refine take_ (i := 12) (N := some 73) (v := ?_) (a' := ?_) #[true, true, true, true, true, true, true, true, true, true, true, true, true, false, false, false, false, false, false, false, false, false, false, false, false, false, false, false, false, false, false, false, false, false, false, false, false, false, false, false] rfl rfl (take_ofW HT_.out HW_.out (by kernel_rfl)) (fun _ _ _ h => h) (Or.inl ⟨by rfl, ?_⟩) hHeld ?_ ?_
                    rotate_left
                    ·rintro w' ⟨s0, s1, s2, s3, s4, s5, s6, s7, s8, s9, s10, s11, s12, s13⟩
                     go_simp
                     with_reducible rfl
                    rotate_left
                    ·simp only [Act.put, List.setIfInBounds_toArray, List.set_cons_zero, List.set_cons_succ, i64_w, i32_w]
                     rfl
                    refine pure_ (i := 13) (N := some 74) (v := ?_) (a' := ?_) #[true, true, true, true, true, true, true, true, true, true, true, true, true, true, false, false, false, false, false, false, false, false, false, false, false, false, false, false, false, false, false, false, false, false, false, false, false, false, false, false] rfl rfl (any_of HT_.out (by kernel_rfl)) (fun _ _ _ h => h) (Or.inl ⟨by rfl, ?_⟩) ?_ ?_
                    rotate_left
                    ·intro w'
                     go_simp
                     with_reducible rfl
                    rotate_left
                    ·simp only [Act.put, List.setIfInBounds_toArray, List.set_cons_zero, List.set_cons_succ, i64_w, i32_w]
                     rfl
                    refine pure_ (i := 14) (N := some 75) (v := ?_) (a' := ?_) #[true, true, true, true, true, true, true, true, true, true, true, true, true, true, true, false, false, false, false, false, false, false, false, false, false, false, false, false, false, false, false, false, false, false, false, false, false, false, false, false] rfl rfl (any_of HT_.out (by kernel_rfl)) (fun _ _ _ h => h) (Or.inl ⟨by rfl, ?_⟩) ?_ ?_
                    rotate_left
                    ·intro w'
                     go_simp
                     with_reducible rfl
                    rotate_left
                    ·simp only [Act.put, List.setIfInBounds_toArray, List.set_cons_zero, List.set_cons_succ, i64_w, i32_w]
                     rfl
                    refine pure_ (i := 15) (N := some 76) (v := ?_) (a' := ?_) #[true, true, true, true, true, true, true, true, true, true, true, true, true, true, true, true, false, false, false, false, false, false, false, false, false, false, false, false, false, false, false, false, false, false, false, false, false, false, false, false] rfl rfl (any_of HT_.out (by kernel_rfl)) (fun _ _ _ h => h) (Or.inl ⟨by rfl, ?_⟩) ?_ ?_
                    rotate_left
                    ·intro w'
                     go_simp
                     with_reducible rfl
                    rotate_left
                    ·simp only [Act.put, List.setIfInBounds_toArray, List.set_cons_zero, List.set_cons_succ, i64_w, i32_w]
                     rfl
                    refine pure_ (i := 16) (N := some 77) (v := ?_) (a' := ?_) #[true, true, true, true, true, true, true, true, true, true, true, true, true, true, true, true, true, false, false, false, false, false, false, false, false, false, false, false, false, false, false, false, false, false, false, false, false, false, false, false] rfl rfl (any_of HT_.out (by kernel_rfl)) (fun _ _ _ h => h) (Or.inl ⟨by rfl, ?_⟩) ?_ ?_
                    rotate_left
                    ·intro w'
                     go_simp
                     with_reducible rfl
                    rotate_left
                    ·simp only [Act.put, List.setIfInBounds_toArray, List.set_cons_zero, List.set_cons_succ, i64_w, i32_w]
                     rfl
                    refine pure_ (i := 18) (N := some 79) (v := ?_) (a' := ?_) #[true, true, true, true, true, true, true, true, true, true, true, true, true, true, true, true, true, false, true, false, false, false, false, false, false, false, false, false, false, false, false, false, false, false, false, false, false, false, false, false] rfl rfl (any_of HT_.out (by kernel_rfl)) (fun _ _ _ h => h) (Or.inl ⟨by rfl, ?_⟩) ?_ ?_
                    rotate_left
                    ·intro w'
                     go_simp
                     with_reducible rfl
                    rotate_left
                    ·simp only [Act.put, List.setIfInBounds_toArray, List.set_cons_zero, List.set_cons_succ, i64_w, i32_w]
                     rfl
                    refine pure_ (i := 21) (N := some 82) (v := ?_) (a' := ?_) #[true, true, true, true, true, true, true, true, true, true, true, true, true, true, true, true, true, false, true, false, false, true, false, false, false, false, false, false, false, false, false, false, false, false, false, false, false, false, false, false] rfl rfl (any_of HT_.out (by kernel_rfl)) (fun _ _ _ h => h) (Or.inl ⟨by rfl, ?_⟩) ?_ ?_
                    rotate_left
                    ·intro w'
                     go_simp
                     with_reducible rfl
                    rotate_left
                    ·simp only [Act.put, List.setIfInBounds_toArray, List.set_cons_zero, List.set_cons_succ, i64_w, i32_w]
                     rfl
                    refine take_ (i := 17) (N := some 78) (v := ?_) (a' := ?_) #[true, true, true, true, true, true, true, true, true, true, true, true, true, true, true, true, true, true, true, false, false, true, false, false, false, false, false, false, false, false, false, false, false, false, false, false, false, false, false, false] rfl rfl (take_ofW HT_.out HW_.out (by kernel_rfl)) (fun _ _ _ h => h) (Or.inl ⟨by rfl, ?_⟩) hHeld ?_ ?_
                    rotate_left
                    ·rintro w' ⟨s0, s1, s2, s3, s4, s5, s6, s7, s8, s9, s10, s11, s12, s13⟩
                     go_simp
                     with_reducible rfl
                    rotate_left
                    ·simp only [Act.put, List.setIfInBounds_toArray, List.set_cons_zero, List.set_cons_succ, i64_w, i32_w]
                     rfl
                    refine take_ (i := 19) (N := some 80) (v := ?_) (a' := ?_) #[true, true, true, true, true, true, true, true, true, true, true, true, true, true, true, true, true, true, true, true, false, true, false, false, false, false, false, false, false, false, false, false, false, false, false, false, false, false, false, false] rfl rfl (take_ofW HT_.out HW_.out (by kernel_rfl)) (fun _ _ _ h => h) (Or.inl ⟨by rfl, ?_⟩) hHeld ?_ ?_
                    rotate_left
                    ·rintro w' ⟨s0, s1, s2, s3, s4, s5, s6, s7, s8, s9, s10, s11, s12, s13⟩
                     go_simp
                     with_reducible rfl
                    rotate_left
                    ·simp only [Act.put, List.setIfInBounds_toArray, List.set_cons_zero, List.set_cons_succ, i64_w, i32_w]
                     rfl
                    refine pure_ (i := 20) (N := some 81) (v := ?_) (a' := ?_) #[true, true, true, true, true, true, true, true, true, true, true, true, true, true, true, true, true, true, true, true, true, true, false, false, false, false, false, false, false, false, false, false, false, false, false, false, false, false, false, false] rfl rfl (any_of HT_.out (by kernel_rfl)) (fun _ _ _ h => h) (Or.inl ⟨by rfl, ?_⟩) ?_ ?_
                    rotate_left
                    ·intro w'
                     go_simp
                     with_reducible rfl
                    rotate_left
                    ·simp only [Act.put, List.setIfInBounds_toArray, List.set_cons_zero, List.set_cons_succ, i64_w, i32_w]
                     rfl
                    refine take_ (i := 22) (N := some 83) (v := ?_) (a' := ?_) #[true, true, true, true, true, true, true, true, true, true, true, true, true, true, true, true, true, true, true, true, true, true, true, false, false, false, false, false, false, false, false, false, false, false, false, false, false, false, false, false] rfl rfl (take_ofW HT_.out HW_.out (by kernel_rfl)) (fun _ _ _ h => h) (Or.inl ⟨by rfl, ?_⟩) hHeld ?_ ?_
                    rotate_left
                    ·rintro w' ⟨s0, s1, s2, s3, s4, s5, s6, s7, s8, s9, s10, s11, s12, s13⟩
                     go_simp
                     with_reducible rfl
                    rotate_left
                    ·simp only [Act.put, List.setIfInBounds_toArray, List.set_cons_zero, List.set_cons_succ, i64_w, i32_w]
                     rfl
                    refine pure_ (i := 23) (N := some 84) (v := ?_) (a' := ?_) #[true, true, true, true, true, true, true, true, true, true, true, true, true, true, true, true, true, true, true, true, true, true, true, true, false, false, false, false, false, false, false, false, false, false, false, false, false, false, false, false] rfl rfl (any_of HT_.out (by kernel_rfl)) (fun _ _ _ h => h) (Or.inl ⟨by rfl, ?_⟩) ?_ ?_
                    rotate_left
                    ·intro w'
                     go_simp
                     with_reducible rfl
                    rotate_left
                    ·simp only [Act.put, List.setIfInBounds_toArray, List.set_cons_zero, List.set_cons_succ, i64_w, i32_w]
                     rfl
                    refine pure_ (i := 24) (N := some 85) (v := ?_) (a' := ?_) #[true, true, true, true, true, true, true, true, true, true, true, true, true, true, true, true, true, true, true, true, true, true, true, true, true, false, false, false, false, false, false, false, false, false, false, false, false, false, false, false] rfl rfl (any_of HT_.out (by kernel_rfl)) (fun _ _ _ h => h) (Or.inl ⟨by rfl, ?_⟩) ?_ ?_
                    rotate_left
                    ·intro w'
                     go_simp
                     with_reducible rfl
                    rotate_left
                    ·simp only [Act.put, List.setIfInBounds_toArray, List.set_cons_zero, List.set_cons_succ, i64_w, i32_w]
                     rfl
                    refine pure_ (i := 25) (N := some 86) (v := ?_) (a' := ?_) #[true, true, true, true, true, true, true, true, true, true, true, true, true, true, true, true, true, true, true, true, true, true, true, true, true, true, false, false, false, false, false, false, false, false, false, false, false, false, false, false] rfl rfl (any_of HT_.out (by kernel_rfl)) (fun _ _ _ h => h) (Or.inl ⟨by rfl, ?_⟩) ?_ ?_
                    rotate_left
                    ·intro w'
                     go_simp
                     with_reducible rfl
                    rotate_left
                    ·simp only [Act.put, List.setIfInBounds_toArray, List.set_cons_zero, List.set_cons_succ, i64_w, i32_w]
                     rfl
                    refine pure_ (i := 26) (N := some 87) (v := ?_) (a' := ?_) #[true, true, true, true, true, true, true, true, true, true, true, true, true, true, true, true, true, true, true, true, true, true, true, true, true, true, true, false, false, false, false, false, false, false, false, false, false, false, false, false] rfl rfl (any_of HT_.out (by kernel_rfl)) (fun _ _ _ h => h) (Or.inl ⟨by rfl, ?_⟩) ?_ ?_
                    rotate_left
                    ·intro w'
                     go_simp
                     with_reducible rfl
                    rotate_left
                    ·simp only [Act.put, List.setIfInBounds_toArray, List.set_cons_zero, List.set_cons_succ, i64_w, i32_w]
                     rfl
                    refine pure_ (i := 27) (N := some 88) (v := ?_) (a' := ?_) #[true, true, true, true, true, true, true, true, true, true, true, true, true, true, true, true, true, true, true, true, true, true, true, true, true, true, true, true, false, false, false, false, false, false, false, false, false, false, false, false] rfl rfl (any_of HT_.out (by kernel_rfl)) (fun _ _ _ h => h) (Or.inl ⟨by rfl, ?_⟩) ?_ ?_
                    rotate_left
                    ·intro w'
                     go_simp
                     with_reducible rfl
                    rotate_left
                    ·simp only [Act.put, List.setIfInBounds_toArray, List.set_cons_zero, List.set_cons_succ, i64_w, i32_w]
                     rfl
                    refine pure_ (i := 28) (N := some 89) (v := ?_) (a' := ?_) #[true, true, true, true, true, true, true, true, true, true, true, true, true, true, true, true, true, true, true, true, true, true, true, true, true, true, true, true, true, false, false, false, false, false, false, false, false, false, false, false] rfl rfl (any_of HT_.out (by kernel_rfl)) (fun _ _ _ h => h) (Or.inl ⟨by rfl, ?_⟩) ?_ ?_
                    rotate_left
                    ·intro w'
                     go_simp
                     with_reducible rfl
                    rotate_left
                    ·simp only [Act.put, List.setIfInBounds_toArray, List.set_cons_zero, List.set_cons_succ, i64_w, i32_w]
                     rfl
                    refine pure_ (i := 29) (N := some 90) (v := ?_) (a' := ?_) #[true, true, true, true, true, true, true, true, true, true, true, true, true, true, true, true, true, true, true, true, true, true, true, true, true, true, true, true, true, true, false, false, false, false, false, false, false, false, false, false] rfl rfl (any_of HT_.out (by kernel_rfl)) (fun _ _ _ h => h) (Or.inl ⟨by rfl, ?_⟩) ?_ ?_
                    rotate_left
                    ·intro w'
                     go_simp
                     with_reducible rfl
                    rotate_left
                    ·simp only [Act.put, List.setIfInBounds_toArray, List.set_cons_zero, List.set_cons_succ, i64_w, i32_w]
                     rfl
                    refine pure_ (i := 30) (N := some 91) (v := ?_) (a' := ?_) #[true, true, true, true, true, true, true, true, true, true, true, true, true, true, true, true, true, true, true, true, true, true, true, true, true, true, true, true, true, true, true, false, false, false, false, false, false, false, false, false] rfl rfl (any_of HT_.out (by kernel_rfl)) (fun _ _ _ h => h) (Or.inl ⟨by rfl, ?_⟩) ?_ ?_
                    rotate_left
                    ·intro w'
                     go_simp
                     with_reducible rfl
                    rotate_left
                    ·simp only [Act.put, List.setIfInBounds_toArray, List.set_cons_zero, List.set_cons_succ, i64_w, i32_w]
                     rfl
                    refine pure_ (i := 31) (N := some 92) (v := ?_) (a' := ?_) #[true, true, true, true, true, true, true, true, true, true, true, true, true, true, true, true, true, true, true, true, true, true, true, true, true, true, true, true, true, true, true, true, false, false, false, false, false, false, false, false] rfl rfl (any_of HT_.out (by kernel_rfl)) (fun _ _ _ h => h) (Or.inl ⟨by rfl, ?_⟩) ?_ ?_
                    rotate_left
                    ·intro w'
                     go_simp
                     with_reducible rfl
                    rotate_left
                    ·simp only [Act.put, List.setIfInBounds_toArray, List.set_cons_zero, List.set_cons_succ, i64_w, i32_w]
                     rfl
                    refine pure_ (i := 32) (N := some 93) (v := ?_) (a' := ?_) #[true, true, true, true, true, true, true, true, true, true, true, true, true, true, true, true, true, true, true, true, true, true, true, true, true, true, true, true, true, true, true, true, true, false, false, false, false, false, false, false] rfl rfl (any_of HT_.out (by kernel_rfl)) (fun _ _ _ h => h) (Or.inl ⟨by rfl, ?_⟩) ?_ ?_
                    rotate_left
                    ·intro w'
                     go_simp
                     with_reducible rfl
                    rotate_left
                    ·simp only [Act.put, List.setIfInBounds_toArray, List.set_cons_zero, List.set_cons_succ, i64_w, i32_w]
                     rfl
                    refine pure_ (i := 33) (N := some 94) (v := ?_) (a' := ?_) #[true, true, true, true, true, true, true, true, true, true, true, true, true, true, true, true, true, true, true, true, true, true, true, true, true, true, true, true, true, true, true, true, true, true, false, false, false, false, false, false] rfl rfl (any_of HT_.out (by kernel_rfl)) (fun _ _ _ h => h) (Or.inl ⟨by rfl, ?_⟩) ?_ ?_
                    rotate_left
                    ·intro w'
                     go_simp
                     with_reducible rfl
                    rotate_left
                    ·simp only [Act.put, List.setIfInBounds_toArray, List.set_cons_zero, List.set_cons_succ, i64_w, i32_w]
                     rfl
                    refine pure_ (i := 35) (N := some 96) (v := ?_) (a' := ?_) #[true, true, true, true, true, true, true, true, true, true, true, true, true, true, true, true, true, true, true, true, true, true, true, true, true, true, true, true, true, true, true, true, true, true, false, true, false, false, false, false] rfl rfl (any_of HT_.out (by kernel_rfl)) (fun _ _ _ h => h) (Or.inl ⟨by rfl, ?_⟩) ?_ ?_
                    rotate_left
                    ·intro w'
                     go_simp
                     with_reducible rfl
                    rotate_left
                    ·simp only [Act.put, List.setIfInBounds_toArray, List.set_cons_zero, List.set_cons_succ, i64_w, i32_w]
                     rfl
                    refine take_ (i := 34) (N := some 95) (v := ?_) (a' := ?_) #[true, true, true, true, true, true, true, true, true, true, true, true, true, true, true, true, true, true, true, true, true, true, true, true, true, true, true, true, true, true, true, true, true, true, true, true, false, false, false, false] rfl rfl (take_ofW HT_.out HW_.out (by kernel_rfl)) (fun _ _ _ h => h) (Or.inl ⟨by rfl, ?_⟩) hHeld ?_ ?_
                    rotate_left
                    ·rintro w' ⟨s0, s1, s2, s3, s4, s5, s6, s7, s8, s9, s10, s11, s12, s13⟩
                     go_simp
                     with_reducible rfl
                    rotate_left
                    ·simp only [Act.put, List.setIfInBounds_toArray, List.set_cons_zero, List.set_cons_succ, i64_w, i32_w]
                     rfl
                    refine take_ (i := 36) (N := some 97) (v := ?_) (a' := ?_) #[true, true, true, true, true, true, true, true, true, true, true, true, true, true, true, true, true, true, true, true, true, true, true, true, true, true, true, true, true, true, true, true, true, true, true, true, true, false, false, false] rfl rfl (take_ofW HT_.out HW_.out (by kernel_rfl)) (fun _ _ _ h => h) (Or.inl ⟨by rfl, ?_⟩) hHeld ?_ ?_
                    rotate_left
                    ·rintro w' ⟨s0, s1, s2, s3, s4, s5, s6, s7, s8, s9, s10, s11, s12, s13⟩
                     go_simp
                     with_reducible rfl
                    rotate_left
                    ·simp only [Act.put, List.setIfInBounds_toArray, List.set_cons_zero, List.set_cons_succ, i64_w, i32_w]
                     rfl
                    refine pure_ (i := 37) (N := some 98) (v := ?_) (a' := ?_) #[true, true, true, true, true, true, true, true, true, true, true, true, true, true, true, true, true, true, true, true, true, true, true, true, true, true, true, true, true, true, true, true, true, true, true, true, true, true, false, false] rfl rfl (any_of HT_.out (by kernel_rfl)) (fun _ _ _ h => h) (Or.inl ⟨by rfl, ?_⟩) ?_ ?_
                    rotate_left
                    ·intro w'
                     go_simp
                     with_reducible rfl
                    rotate_left
                    ·simp only [Act.put, List.setIfInBounds_toArray, List.set_cons_zero, List.set_cons_succ, i64_w, i32_w]
                     rfl
                    refine pure_ (i := 38) (N := some 99) (v := ?_) (a' := ?_) #[true, true, true, true, true, true, true, true, true, true, true, true, true, true, true, true, true, true, true, true, true, true, true, true, true, true, true, true, true, true, true, true, true, true, true, true, true, true, true, false] rfl rfl (any_of HT_.out (by kernel_rfl)) (fun _ _ _ h => h) (Or.inl ⟨by rfl, ?_⟩) ?_ ?_
                    rotate_left
                    ·intro w'
                     go_simp
                     with_reducible rfl
                    rotate_left
                    ·simp only [Act.put, List.setIfInBounds_toArray, List.set_cons_zero, List.set_cons_succ, i64_w, i32_w]
                     rfl
                    refine pure_ (i := 39) (N := some 100) (v := ?_) (a' := ?_) #[true, true, true, true, true, true, true, true, true, true, true, true, true, true, true, true, true, true, true, true, true, true, true, true, true, true, true, true, true, true, true, true, true, true, true, true, true, true, true, true] rfl rfl (any_of HT_.out (by kernel_rfl)) (fun _ _ _ h => h) (Or.inl ⟨by rfl, ?_⟩) ?_ ?_
                    rotate_left
                    ·intro w'
                     go_simp
                     with_reducible rfl
                    rotate_left
                    ·simp only [Act.put, List.setIfInBounds_toArray, List.set_cons_zero, List.set_cons_succ, i64_w, i32_w]
                     rfl
                    refine done_ (done_of HT_.out (by kernel_rfl)) ?_
                    try go_wp2
                    go_meet
                    case rel => exact ⟨_, (decide (((rd_T34 t256 (ji60)).f0) ≥ ((rd_T34 t256 x6_3).f0))), (by first | rfl | (simp; done) | (simp only [← hji60] <;> (first | rfl | simp)) | (simp [*]; done)), H', ⟨by have := HJ4.out; have := HJ25.out; have := HK3.out; first | omega | exact Nat.le_refl _⟩, ⟨by (with_reducible repeat (first | apply Kd.R_alloc | apply Kd.R_drewN | apply Kd.R_drew)); exact HO_5.out⟩, ⟨by (with_reducible repeat (first | refine blk_drewN ?_ _ | refine blk_drew ?_ | refine blk_alloc ?_ _)); exact BK255.out⟩, ⟨by (with_reducible repeat (first | refine blk_drewN ?_ _ | refine blk_drew ?_ | refine blk_alloc ?_ _)); exact BK268.out⟩, ⟨by repeat (first | (with_reducible first | exact HB.out | apply below_alloc | apply pw_below_drewN | apply below_drew1 | refine below_set ?_ GE255.out | refine below_set ?_ GE268.out) | exact HB.out)⟩⟩
                   ·rw [if_neg c62] at H
                    exact absurd H (by simp)
                  ·rw [if_neg c61] at H
                   exact absurd H (by simp)
                 ·rw [if_neg c59] at H
                  have c59b0 : decide (0 < x6_3) = false := decide_eq_false c59
                  clear c59
                  have H' := Aside0.mk H
                  clear H
                  try go_wp2
                  have n0_ : Aside0 (Kd.R k34 34 ((w45.setCell ⟨gb268, 0, none⟩ (.int .i64 ((rd_T34 t256 x6_3).f0))).setCell ⟨gb268, 1, none⟩ (.int .i64 ((rd_T34 t256 x6_3).f1))) w.heap.size (fun k_ => k_ ≠ gb268) (.slice (some ad267) t256.length co44) t256) := ⟨by (with_reducible repeat (first | apply Kd.R_alloc | apply Kd.R_drewN | apply Kd.R_drew)); exact Kd.R_mono (Kd.R_far (p := ⟨gb268, 1, none⟩) (Kd.R_far (p := ⟨gb268, 0, none⟩) (Kd.R_mono HO_5.out (fun k_ hk => (⟨hk, hk.2⟩ : _ ∧ k_ ≠ gb268))) (fun _ hk => hk.2) (.int .i64 ((rd_T34 t256 x6_3).f0))) (fun _ hk => hk.2) (.int .i64 ((rd_T34 t256 x6_3).f1))) (fun _ hk => hk.1.2)⟩
                  have n1_ : Aside0 (((w45.setCell ⟨gb268, 0, none⟩ (.int .i64 ((rd_T34 t256 x6_3).f0))).setCell ⟨gb268, 1, none⟩ (.int .i64 ((rd_T34 t256 x6_3).f1))).heap[gb255]? = some (.cells #[.int .i64 t244, .int .i64 t245, .int .i64 t246, .int .i64 t247, .int .i64 t248, .int .i64 t249, .int .i64 t250, .bool t251, .int .i64 t252, .int .i64 t253] 50 (0, 0))) := ⟨by (with_reducible repeat (first | refine blk_drewN ?_ _ | refine blk_drew ?_ | refine blk_alloc ?_ _)); refine blk_far ?_ NB255_268.out _; (with_reducible repeat (first | refine blk_drewN ?_ _ | refine blk_drew ?_ | refine blk_alloc ?_ _)); refine blk_far ?_ NB255_268.out _; (with_reducible repeat (first | refine blk_drewN ?_ _ | refine blk_drew ?_ | refine blk_alloc ?_ _)); exact BK255.out⟩
                  have n2_ : Aside0 (((w45.setCell ⟨gb268, 0, none⟩ (.int .i64 ((rd_T34 t256 x6_3).f0))).setCell ⟨gb268, 1, none⟩ (.int .i64 ((rd_T34 t256 x6_3).f1))).heap[gb268]? = some (.cells #[.int .i64 ((rd_T34 t256 x6_3).f0), .int .i64 ((rd_T34 t256 x6_3).f1)] 34 (0, 0))) := ⟨by (with_reducible repeat (first | refine blk_drewN ?_ _ | refine blk_drew ?_ | refine blk_alloc ?_ _)); refine blk_put (cs := #[.int .i64 ((rd_T34 t256 x6_3).f0), .int .i64 0]) ?_ 1 _ rfl; (with_reducible repeat (first | refine blk_drewN ?_ _ | refine blk_drew ?_ | refine blk_alloc ?_ _)); refine blk_put (cs := #[.int .i64 0, .int .i64 0]) ?_ 0 _ rfl; (with_reducible repeat (first | refine blk_drewN ?_ _ | refine blk_drew ?_ | refine blk_alloc ?_ _)); exact BK268.out⟩
                  have n3_ : Aside0 (Below w.heap.size w ((w45.setCell ⟨gb268, 0, none⟩ (.int .i64 ((rd_T34 t256 x6_3).f0))).setCell ⟨gb268, 1, none⟩ (.int .i64 ((rd_T34 t256 x6_3).f1)))) := ⟨by repeat (first | (with_reducible first | exact HB.out | apply below_alloc | apply pw_below_drewN | apply below_drew1 | refine below_set ?_ GE255.out | refine below_set ?_ GE268.out) | exact HB.out)⟩
                  (try clear HO_5)
                  (try clear BK255)
                  (try clear BK268)
                  (try clear HB)
                  generalize ((w45.setCell ⟨gb268, 0, none⟩ (.int .i64 ((rd_T34 t256 x6_3).f0))).setCell ⟨gb268, 1, none⟩ (.int .i64 ((rd_T34 t256 x6_3).f1))) = w66 at n0_ n1_ n2_ n3_ ⊢
                  have HO_5 := n0_
                  have BK255 := n1_
                  have BK268 := n2_
                  have HB := n3_
                  clear n0_ n1_ n2_ n3_
                  have n0_ := Aside0.mk (Kd.R_drew HO_5.out)
                  have n1_ := Aside0.mk (blk_drew BK255.out)
                  have n2_ := Aside0.mk (blk_drew BK268.out)
                  have n3_ := Aside0.mk (below_drew1 HB.out)
                  clear HO_5
                  clear BK255
                  clear BK268
                  clear HB
                  have HO_5 := n0_
                  have BK255 := n1_
                  have BK268 := n2_
                  have HB := n3_
                  clear n0_ n1_ n2_ n3_
                  refine start_ (n := 40) (S := fun w' => w'.cell? ⟨gb268, 0, none⟩ = some (.int .i64 ((rd_T34 t256 x6_3).f0)) ∧ w'.cell? ⟨gb268, 1, none⟩ = some (.int .i64 ((rd_T34 t256 x6_3).f1)) ∧ w'.cell? ⟨gb255, 0, none⟩ = some (.int .i64 t244) ∧ w'.cell? ⟨gb255, 1, none⟩ = some (.int .i64 t245) ∧ w'.cell? ⟨gb255, 2, none⟩ = some (.int .i64 t246) ∧ w'.cell? ⟨gb255, 3, none⟩ = some (.int .i64 t247) ∧ w'.cell? ⟨gb255, 4, none⟩ = some (.int .i64 t248) ∧ w'.cell? ⟨gb255, 5, none⟩ = some (.int .i64 t249) ∧ w'.cell? ⟨gb255, 6, none⟩ = some (.int .i64 t250) ∧ w'.cell? ⟨gb255, 7, none⟩ = some (.bool t251) ∧ w'.cell? ⟨gb255, 8, none⟩ = some (.int .i64 t252) ∧ w'.cell? ⟨gb255, 9, none⟩ = some (.int .i64 t253)) (ds := []) #[false, false, false, false, false, false, false, false, false, false, false, false, false, false, false, false, false, false, false, false, false, false, false, false, false, false, false, false, false, false, false, false, false, false, false, false, false, false, false, false] (by kernel_rfl) rfl rfl ⟨(blk_cell BK268.out 0).trans rfl, (blk_cell BK268.out 1).trans rfl, (blk_cell BK255.out 0).trans rfl, (blk_cell BK255.out 1).trans rfl, (blk_cell BK255.out 2).trans rfl, (blk_cell BK255.out 3).trans rfl, (blk_cell BK255.out 4).trans rfl, (blk_cell BK255.out 5).trans rfl, (blk_cell BK255.out 6).trans rfl, (blk_cell BK255.out 7).trans rfl, (blk_cell BK255.out 8).trans rfl, (blk_cell BK255.out 9).trans rfl⟩ (fun hHeld => ?_); refine with_tabW laws_FnWinOf.tab13 laws_FnWinOf.bits13 (fun HT_ HW_ => ?_)
                  generalize w66.drew = w67 at HO_5 BK255 BK268 HB hHeld ⊢
                  refine take_ (i := 0) (N := some 61) (v := ?_) (a' := ?_) #[true, false, false, false, false, false, false, false, false, false, false, false, false, false, false, false, false, false, false, false, false, false, false, false, false, false, false, false, false, false, false, false, false, false, false, false, false, false, false, false] rfl rfl (take_ofW HT_.out HW_.out (by kernel_rfl)) (fun _ _ _ h => h) (Or.inl ⟨by rfl, ?_⟩) hHeld ?_ ?_
                  rotate_left
                  ·rintro w' ⟨s0, s1, s2, s3, s4, s5, s6, s7, s8, s9, s10, s11⟩
                   go_simp
                   with_reducible rfl
                  rotate_left
                  ·simp only [Act.put, List.setIfInBounds_toArray, List.set_cons_zero, List.set_cons_succ, i64_w, i32_w]
                   rfl
                  refine one_ (i := 1) (N := some 62) #[true, true, false, false, false, false, false, false, false, false, false, false, false, false, false, false, false, false, false, false, false, false, false, false, false, false, false, false, false, false, false, false, false, false, false, false, false, false, false, false] rfl rfl (one_of HT_.out (by kernel_rfl)) (by decide) (fun K hK => ?_)
                  refine goes_ Try.func55 (by kernel_rfl) rfl #[.agg #[.int .i64 ((rd_T34 t256 x6_3).f0), .int .i64 ((rd_T34 t256 x6_3).f1)]] (by rfl) rfl rfl (by (try simp only [List.map_toArray, List.map_cons, List.map_nil]); first | done | rfl | (simp only [List.length_drop, List.length_take]; rfl)) ?_
                  with_reducible refine (impl_WinOk.calls ((rd_T34 t256 x6_3).f0) ((rd_T34 t256 x6_3).f1) true _ A48.out).mono ?_
                  rintro e w68 ⟨rfl, hb⟩
                  refine ⟨_, rfl, ?_⟩
                  have n0_ := Aside0.mk (Kd.R_below (by (with_reducible repeat (first | apply Kd.R_alloc | apply Kd.R_drewN | apply Kd.R_drew)); exact HO_5.out) hb)
                  have n1_ := Aside0.mk (blk_below (g := gb255) (o := .cells #[.int .i64 t244, .int .i64 t245, .int .i64 t246, .int .i64 t247, .int .i64 t248, .int .i64 t249, .int .i64 t250, .bool t251, .int .i64 t252, .int .i64 t253] 50 (0, 0)) (by (with_reducible repeat (first | refine blk_drewN ?_ _ | refine blk_drew ?_ | refine blk_alloc ?_ _)); exact BK255.out) hb)
                  have n2_ := Aside0.mk (blk_below (g := gb268) (o := .cells #[.int .i64 ((rd_T34 t256 x6_3).f0), .int .i64 ((rd_T34 t256 x6_3).f1)] 34 (0, 0)) (by (with_reducible repeat (first | refine blk_drewN ?_ _ | refine blk_drew ?_ | refine blk_alloc ?_ _)); exact BK268.out) hb)
                  have n3_ := Aside0.mk (below_step (by repeat (first | (with_reducible first | exact HB.out | apply below_alloc | apply pw_below_drewN | apply below_drew1 | refine below_set ?_ GE255.out | refine below_set ?_ GE268.out) | exact HB.out)) hb)
                  clear HO_5
                  clear BK255
                  clear BK268
                  clear HB
                  have HO_5 := n0_
                  have BK255 := n1_
                  have BK268 := n2_
                  have HB := n3_
                  clear n0_ n1_ n2_ n3_
                  (try clear hb)
                  (try clear hb2)
                  (try clear hk)
                  (try clear hi)
                  refine hK.out _ _ ⟨(blk_cell BK268.out 0).trans rfl, (blk_cell BK268.out 1).trans rfl, (blk_cell BK255.out 0).trans rfl, (blk_cell BK255.out 1).trans rfl, (blk_cell BK255.out 2).trans rfl, (blk_cell BK255.out 3).trans rfl, (blk_cell BK255.out 4).trans rfl, (blk_cell BK255.out 5).trans rfl, (blk_cell BK255.out 6).trans rfl, (blk_cell BK255.out 7).trans rfl, (blk_cell BK255.out 8).trans rfl, (blk_cell BK255.out 9).trans rfl⟩ (fun hHeld => ?_)
                  clear hK K
                  refine norm_ (a' := ?_) ?_ ?_
                  rotate_left
                  ·show Act.put _ (some 62) _ = _
                   simp only [Act.put, List.setIfInBounds_toArray, List.set_cons_zero, List.set_cons_succ, i64_w, i32_w]
                   rfl
                  refine pure_ (i := 2) (N := some 63) (v := ?_) (a' := ?_) #[true, true, true, false, false, false, false, false, false, false, false, false, false, false, false, false, false, false, false, false, false, false, false, false, false, false, false, false, false, false, false, false, false, false, false, false, false, false, false, false] rfl rfl (any_of HT_.out (by kernel_rfl)) (fun _ _ _ h => h) (Or.inl ⟨by rfl, ?_⟩) ?_ ?_
                  rotate_left
                  ·intro w'
                   go_simp
                   with_reducible rfl
                  rotate_left
                  ·simp only [Act.put, List.setIfInBounds_toArray, List.set_cons_zero, List.set_cons_succ, i64_w, i32_w]
                   rfl
                  refine pure_ (i := 3) (N := some 64) (v := ?_) (a' := ?_) #[true, true, true, true, false, false, false, false, false, false, false, false, false, false, false, false, false, false, false, false, false, false, false, false, false, false, false, false, false, false, false, false, false, false, false, false, false, false, false, false] rfl rfl (any_of HT_.out (by kernel_rfl)) (fun _ _ _ h => h) (Or.inl ⟨by rfl, ?_⟩) ?_ ?_
                  rotate_left
                  ·intro w'
                   go_simp
                   with_reducible rfl
                  rotate_left
                  ·simp only [Act.put, List.setIfInBounds_toArray, List.set_cons_zero, List.set_cons_succ, i64_w, i32_w]
                   rfl
                  refine pure_ (i := 4) (N := some 65) (v := ?_) (a' := ?_) #[true, true, true, true, true, false, false, false, false, false, false, false, false, false, false, false, false, false, false, false, false, false, false, false, false, false, false, false, false, false, false, false, false, false, false, false, false, false, false, false] rfl rfl (any_of HT_.out (by kernel_rfl)) (fun _ _ _ h => h) (Or.inl ⟨by rfl, ?_⟩) ?_ ?_
                  rotate_left
                  ·intro w'
                   go_simp
                   with_reducible rfl
                  rotate_left
                  ·simp only [Act.put, List.setIfInBounds_toArray, List.set_cons_zero, List.set_cons_succ, i64_w, i32_w]
                   rfl
                  refine pure_ (i := 5) (N := some 66) (v := ?_) (a' := ?_) #[true, true, true, true, true, true, false, false, false, false, false, false, false, false, false, false, false, false, false, false, false, false, false, false, false, false, false, false, false, false, false, false, false, false, false, false, false, false, false, false] rfl rfl (any_of HT_.out (by kernel_rfl)) (fun _ _ _ h => h) (Or.inl ⟨by rfl, ?_⟩) ?_ ?_
                  rotate_left
                  ·intro w'
                   go_simp
                   with_reducible rfl
                  rotate_left
                  ·simp only [Act.put, List.setIfInBounds_toArray, List.set_cons_zero, List.set_cons_succ, i64_w, i32_w]
                   rfl
                  refine take_ (i := 6) (N := some 67) (v := ?_) (a' := ?_) #[true, true, true, true, true, true, true, false, false, false, false, false, false, false, false, false, false, false, false, false, false, false, false, false, false, false, false, false, false, false, false, false, false, false, false, false, false, false, false, false] rfl rfl (take_ofW HT_.out HW_.out (by kernel_rfl)) (fun _ _ _ h => h) (Or.inl ⟨by rfl, ?_⟩) hHeld ?_ ?_
                  rotate_left
                  ·rintro w' ⟨s0, s1, s2, s3, s4, s5, s6, s7, s8, s9, s10, s11⟩
                   go_simp
                   with_reducible rfl
                  rotate_left
                  ·simp only [Act.put, List.setIfInBounds_toArray, List.set_cons_zero, List.set_cons_succ, i64_w, i32_w]
                   rfl
                  refine pure_ (i := 7) (N := some 68) (v := ?_) (a' := ?_) #[true, true, true, true, true, true, true, true, false, false, false, false, false, false, false, false, false, false, false, false, false, false, false, false, false, false, false, false, false, false, false, false, false, false, false, false, false, false, false, false] rfl rfl (any_of HT_.out (by kernel_rfl)) (fun _ _ _ h => h) (Or.inl ⟨by rfl, ?_⟩) ?_ ?_
                  rotate_left
                  ·intro w'
                   go_simp
                   with_reducible rfl
                  rotate_left
                  ·simp only [Act.put, List.setIfInBounds_toArray, List.set_cons_zero, List.set_cons_succ, i64_w, i32_w]
                   rfl
                  refine pure_ (i := 8) (N := some 69) (v := ?_) (a' := ?_) #[true, true, true, true, true, true, true, true, true, false, false, false, false, false, false, false, false, false, false, false, false, false, false, false, false, false, false, false, false, false, false, false, false, false, false, false, false, false, false, false] rfl rfl (any_of HT_.out (by kernel_rfl)) (fun _ _ _ h => h) (Or.inl ⟨by rfl, ?_⟩) ?_ ?_
                  rotate_left
                  ·intro w'
                   go_simp
                   with_reducible rfl
                  rotate_left
                  ·simp only [Act.put, List.setIfInBounds_toArray, List.set_cons_zero, List.set_cons_succ, i64_w, i32_w]
                   rfl
                  refine pure_ (i := 9) (N := some 70) (v := ?_) (a' := ?_) #[true, true, true, true, true, true, true, true, true, true, false, false, false, false, false, false, false, false, false, false, false, false, false, false, false, false, false, false, false, false, false, false, false, false, false, false, false, false, false, false] rfl rfl (any_of HT_.out (by kernel_rfl)) (fun _ _ _ h => h) (Or.inl ⟨by rfl, ?_⟩) ?_ ?_
                  rotate_left
                  ·intro w'
                   go_simp
                   with_reducible rfl
                  rotate_left
                  ·simp only [Act.put, List.setIfInBounds_toArray, List.set_cons_zero, List.set_cons_succ, i64_w, i32_w]
                   rfl
                  refine pure_ (i := 10) (N := some 71) (v := ?_) (a' := ?_) #[true, true, true, true, true, true, true, true, true, true, true, false, false, false, false, false, false, false, false, false, false, false, false, false, false, false, false, false, false, false, false, false, false, false, false, false, false, false, false, false] rfl rfl (any_of HT_.out (by kernel_rfl)) (fun _ _ _ h => h) (Or.inl ⟨by rfl, ?_⟩) ?_ ?_
                  rotate_left
                  ·intro w'
                   go_simp
                   with_reducible rfl
                  rotate_left
                  ·simp only [Act.put, List.setIfInBounds_toArray, List.set_cons_zero, List.set_cons_succ, i64_w, i32_w]
                   rfl
                  refine pure_ (i := 11) (N := some 72) (v := ?_) (a' := ?_) #[true, true, true, true, true, true, true, true, true, true, true, true, false, false, false, false, false, false, false, false, false, false, false, false, false, false, false, false, false, false, false, false, false, false, false, false, false, false, false, false] rfl rfl (any_of HT_.out (by kernel_rfl)) (fun _ _ _ h => h) (Or.inl ⟨by rfl, ?_⟩) ?_ ?_
                  rotate_left
                  ·intro w'
                   go_simp
                   with_reducible rfl
                  rotate_left
                  ·simp only [Act.put, List.setIfInBounds_toArray, List.set_cons_zero, List.set_cons_succ, i64_w, i32_w]
                   rfl
                  refine take_ (i := 12) (N := some 73) (v := ?_) (a' := ?_) #[true, true, true, true, true, true, true, true, true, true, true, true, true, false, false, false, false, false, false, false, false, false, false, false, false, false, false, false, false, false, false, false, false, false, false, false, false, false, false, false] rfl rfl (take_ofW HT_.out HW_.out (by kernel_rfl)) (fun _ _ _ h => h) (Or.inl ⟨by rfl, ?_⟩) hHeld ?_ ?_
                  rotate_left
                  ·rintro w' ⟨s0, s1, s2, s3, s4, s5, s6, s7, s8, s9, s10, s11⟩
                   go_simp
                   with_reducible rfl
                  rotate_left
                  ·simp only [Act.put, List.setIfInBounds_toArray, List.set_cons_zero, List.set_cons_succ, i64_w, i32_w]
                   rfl
                  refine pure_ (i := 13) (N := some 74) (v := ?_) (a' := ?_) #[true, true, true, true, true, true, true, true, true, true, true, true, true, true, false, false, false, false, false, false, false, false, false, false, false, false, false, false, false, false, false, false, false, false, false, false, false, false, false, false] rfl rfl (any_of HT_.out (by kernel_rfl)) (fun _ _ _ h => h) (Or.inl ⟨by rfl, ?_⟩) ?_ ?_
                  rotate_left
                  ·intro w'
                   go_simp
                   with_reducible rfl
                  rotate_left
                  ·simp only [Act.put, List.setIfInBounds_toArray, List.set_cons_zero, List.set_cons_succ, i64_w, i32_w]
                   rfl
                  refine pure_ (i := 14) (N := some 75) (v := ?_) (a' := ?_) #[true, true, true, true, true, true, true, true, true, true, true, true, true, true, true, false, false, false, false, false, false, false, false, false, false, false, false, false, false, false, false, false, false, false, false, false, false, false, false, false] rfl rfl (any_of HT_.out (by kernel_rfl)) (fun _ _ _ h => h) (Or.inl ⟨by rfl, ?_⟩) ?_ ?_
                  rotate_left
                  ·intro w'
                   go_simp
                   with_reducible rfl
                  rotate_left
                  ·simp only [Act.put, List.setIfInBounds_toArray, List.set_cons_zero, List.set_cons_succ, i64_w, i32_w]
                   rfl
                  refine pure_ (i := 15) (N := some 76) (v := ?_) (a' := ?_) #[true, true, true, true, true, true, true, true, true, true, true, true, true, true, true, true, false, false, false, false, false, false, false, false, false, false, false, false, false, false, false, false, false, false, false, false, false, false, false, false] rfl rfl (any_of HT_.out (by kernel_rfl)) (fun _ _ _ h => h) (Or.inl ⟨by rfl, ?_⟩) ?_ ?_
                  rotate_left
                  ·intro w'
                   go_simp
                   with_reducible rfl
                  rotate_left
                  ·simp only [Act.put, List.setIfInBounds_toArray, List.set_cons_zero, List.set_cons_succ, i64_w, i32_w]
                   rfl
                  refine pure_ (i := 16) (N := some 77) (v := ?_) (a' := ?_) #[true, true, true, true, true, true, true, true, true, true, true, true, true, true, true, true, true, false, false, false, false, false, false, false, false, false, false, false, false, false, false, false, false, false, false, false, false, false, false, false] rfl rfl (any_of HT_.out (by kernel_rfl)) (fun _ _ _ h => h) (Or.inl ⟨by rfl, ?_⟩) ?_ ?_
                  rotate_left
                  ·intro w'
                   go_simp
                   with_reducible rfl
                  rotate_left
                  ·simp only [Act.put, List.setIfInBounds_toArray, List.set_cons_zero, List.set_cons_succ, i64_w, i32_w]
                   rfl
                  refine pure_ (i := 18) (N := some 79) (v := ?_) (a' := ?_) #[true, true, true, true, true, true, true, true, true, true, true, true, true, true, true, true, true, false, true, false, false, false, false, false, false, false, false, false, false, false, false, false, false, false, false, false, false, false, false, false] rfl rfl (any_of HT_.out (by kernel_rfl)) (fun _ _ _ h => h) (Or.inl ⟨by rfl, ?_⟩) ?_ ?_
                  rotate_left
                  ·intro w'
                   go_simp
                   with_reducible rfl
                  rotate_left
                  ·simp only [Act.put, List.setIfInBounds_toArray, List.set_cons_zero, List.set_cons_succ, i64_w, i32_w]
                   rfl
                  refine pure_ (i := 21) (N := some 82) (v := ?_) (a' := ?_) #[true, true, true, true, true, true, true, true, true, true, true, true, true, true, true, true, true, false, true, false, false, true, false, false, false, false, false, false, false, false, false, false, false, false, false, false, false, false, false, false] rfl rfl (any_of HT_.out (by kernel_rfl)) (fun _ _ _ h => h) (Or.inl ⟨by rfl, ?_⟩) ?_ ?_
                  rotate_left
                  ·intro w'
                   go_simp
                   with_reducible rfl
                  rotate_left
                  ·simp only [Act.put, List.setIfInBounds_toArray, List.set_cons_zero, List.set_cons_succ, i64_w, i32_w]
                   rfl
                  refine take_ (i := 17) (N := some 78) (v := ?_) (a' := ?_) #[true, true, true, true, true, true, true, true, true, true, true, true, true, true, true, true, true, true, true, false, false, true, false, false, false, false, false, false, false, false, false, false, false, false, false, false, false, false, false, false] rfl rfl (take_ofW HT_.out HW_.out (by kernel_rfl)) (fun _ _ _ h => h) (Or.inl ⟨by rfl, ?_⟩) hHeld ?_ ?_
                  rotate_left
                  ·rintro w' ⟨s0, s1, s2, s3, s4, s5, s6, s7, s8, s9, s10, s11⟩
                   go_simp
                   with_reducible rfl
                  rotate_left
                  ·simp only [Act.put, List.setIfInBounds_toArray, List.set_cons_zero, List.set_cons_succ, i64_w, i32_w]
                   rfl
                  refine take_ (i := 19) (N := some 80) (v := ?_) (a' := ?_) #[true, true, true, true, true, true, true, true, true, true, true, true, true, true, true, true, true, true, true, true, false, true, false, false, false, false, false, false, false, false, false, false, false, false, false, false, false, false, false, false] rfl rfl (take_ofW HT_.out HW_.out (by kernel_rfl)) (fun _ _ _ h => h) (Or.inl ⟨by rfl, ?_⟩) hHeld ?_ ?_
                  rotate_left
                  ·rintro w' ⟨s0, s1, s2, s3, s4, s5, s6, s7, s8, s9, s10, s11⟩
                   go_simp
                   with_reducible rfl
                  rotate_left
                  ·simp only [Act.put, List.setIfInBounds_toArray, List.set_cons_zero, List.set_cons_succ, i64_w, i32_w]
                   rfl
                  refine pure_ (i := 20) (N := some 81) (v := ?_) (a' := ?_) #[true, true, true, true, true, true, true, true, true, true, true, true, true, true, true, true, true, true, true, true, true, true, false, false, false, false, false, false, false, false, false, false, false, false, false, false, false, false, false, false] rfl rfl (any_of HT_.out (by kernel_rfl)) (fun _ _ _ h => h) (Or.inl ⟨by rfl, ?_⟩) ?_ ?_
                  rotate_left
                  ·intro w'
                   go_simp
                   with_reducible rfl
                  rotate_left
                  ·simp only [Act.put, List.setIfInBounds_toArray, List.set_cons_zero, List.set_cons_succ, i64_w, i32_w]
                   rfl
                  refine take_ (i := 22) (N := some 83) (v := ?_) (a' := ?_) #[true, true, true, true, true, true, true, true, true, true, true, true, true, true, true, true, true, true, true, true, true, true, true, false, false, false, false, false, false, false, false, false, false, false, false, false, false, false, false, false] rfl rfl (take_ofW HT_.out HW_.out (by kernel_rfl)) (fun _ _ _ h => h) (Or.inl ⟨by rfl, ?_⟩) hHeld ?_ ?_
                  rotate_left
                  ·rintro w' ⟨s0, s1, s2, s3, s4, s5, s6, s7, s8, s9, s10, s11⟩
                   go_simp
                   with_reducible rfl
                  rotate_left
                  ·simp only [Act.put, List.setIfInBounds_toArray, List.set_cons_zero, List.set_cons_succ, i64_w, i32_w]
                   rfl
                  refine pure_ (i := 23) (N := some 84) (v := ?_) (a' := ?_) #[true, true, true, true, true, true, true, true, true, true, true, true, true, true, true, true, true, true, true, true, true, true, true, true, false, false, false, false, false, false, false, false, false, false, false, false, false, false, false, false] rfl rfl (any_of HT_.out (by kernel_rfl)) (fun _ _ _ h => h) (Or.inl ⟨by rfl, ?_⟩) ?_ ?_
                  rotate_left
                  ·intro w'
                   go_simp
                   with_reducible rfl
                  rotate_left
                  ·simp only [Act.put, List.setIfInBounds_toArray, List.set_cons_zero, List.set_cons_succ, i64_w, i32_w]
                   rfl
                  refine pure_ (i := 24) (N := some 85) (v := ?_) (a' := ?_) #[true, true, true, true, true, true, true, true, true, true, true, true, true, true, true, true, true, true, true, true, true, true, true, true, true, false, false, false, false, false, false, false, false, false, false, false, false, false, false, false] rfl rfl (any_of HT_.out (by kernel_rfl)) (fun _ _ _ h => h) (Or.inl ⟨by rfl, ?_⟩) ?_ ?_
                  rotate_left
                  ·intro w'
                   go_simp
                   with_reducible rfl
                  rotate_left
                  ·simp only [Act.put, List.setIfInBounds_toArray, List.set_cons_zero, List.set_cons_succ, i64_w, i32_w]
                   rfl
                  refine pure_ (i := 25) (N := some 86) (v := ?_) (a' := ?_) #[true, true, true, true, true, true, true, true, true, true, true, true, true, true, true, true, true, true, true, true, true, true, true, true, true, true, false, false, false, false, false, false, false, false, false, false, false, false, false, false] rfl rfl (any_of HT_.out (by kernel_rfl)) (fun _ _ _ h => h) (Or.inl ⟨by rfl, ?_⟩) ?_ ?_
                  rotate_left
                  ·intro w'
                   go_simp
                   with_reducible rfl
                  rotate_left
                  ·simp only [Act.put, List.setIfInBounds_toArray, List.set_cons_zero, List.set_cons_succ, i64_w, i32_w]
                   rfl
                  refine pure_ (i := 26) (N := some 87) (v := ?_) (a' := ?_) #[true, true, true, true, true, true, true, true, true, true, true, true, true, true, true, true, true, true, true, true, true, true, true, true, true, true, true, false, false, false, false, false, false, false, false, false, false, false, false, false] rfl rfl (any_of HT_.out (by kernel_rfl)) (fun _ _ _ h => h) (Or.inl ⟨by rfl, ?_⟩) ?_ ?_
                  rotate_left
                  ·intro w'
                   go_simp
                   with_reducible rfl
                  rotate_left
                  ·simp only [Act.put, List.setIfInBounds_toArray, List.set_cons_zero, List.set_cons_succ, i64_w, i32_w]
                   rfl
                  refine pure_ (i := 27) (N := some 88) (v := ?_) (a' := ?_) #[true, true, true, true, true, true, true, true, true, true, true, true, true, true, true, true, true, true, true, true, true, true, true, true, true, true, true, true, false, false, false, false, false, false, false, false, false, false, false, false] rfl rfl (any_of HT_.out (by kernel_rfl)) (fun _ _ _ h => h) (Or.inl ⟨by rfl, ?_⟩) ?_ ?_
                  rotate_left
                  ·intro w'
                   go_simp
                   with_reducible rfl
                  rotate_left
                  ·simp only [Act.put, List.setIfInBounds_toArray, List.set_cons_zero, List.set_cons_succ, i64_w, i32_w]
                   rfl
                  refine pure_ (i := 28) (N := some 89) (v := ?_) (a' := ?_) #[true, true, true, true, true, true, true, true, true, true, true, true, true, true, true, true, true, true, true, true, true, true, true, true, true, true, true, true, true, false, false, false, false, false, false, false, false, false, false, false] rfl rfl (any_of HT_.out (by kernel_rfl)) (fun _ _ _ h => h) (Or.inl ⟨by rfl, ?_⟩) ?_ ?_
                  rotate_left
                  ·intro w'
                   go_simp
                   with_reducible rfl
                  rotate_left
                  ·simp only [Act.put, List.setIfInBounds_toArray, List.set_cons_zero, List.set_cons_succ, i64_w, i32_w]
                   rfl
                  refine pure_ (i := 29) (N := some 90) (v := undef) (a' := ?_) #[true, true, true, true, true, true, true, true, true, true, true, true, true, true, true, true, true, true, true, true, true, true, true, true, true, true, true, true, true, true, false, false, false, false, false, false, false, false, false, false] rfl rfl (any_of HT_.out (by kernel_rfl)) (fun _ _ _ h => h) (Or.inr ⟨by rfl, rfl⟩) ?_ ?_
                  rotate_left
                  ·simp only [Act.put, List.setIfInBounds_toArray, List.set_cons_zero, List.set_cons_succ, i64_w, i32_w]
                   rfl
                  refine pure_ (i := 30) (N := some 91) (v := undef) (a' := ?_) #[true, true, true, true, true, true, true, true, true, true, true, true, true, true, true, true, true, true, true, true, true, true, true, true, true, true, true, true, true, true, true, false, false, false, false, false, false, false, false, false] rfl rfl (any_of HT_.out (by kernel_rfl)) (fun _ _ _ h => h) (Or.inr ⟨by rfl, rfl⟩) ?_ ?_
                  rotate_left
                  ·simp only [Act.put, List.setIfInBounds_toArray, List.set_cons_zero, List.set_cons_succ, i64_w, i32_w]
                   rfl
                  refine pure_ (i := 31) (N := some 92) (v := undef) (a' := ?_) #[true, true, true, true, true, true, true, true, true, true, true, true, true, true, true, true, true, true, true, true, true, true, true, true, true, true, true, true, true, true, true, true, false, false, false, false, false, false, false, false] rfl rfl (any_of HT_.out (by kernel_rfl)) (fun _ _ _ h => h) (Or.inr ⟨by rfl, rfl⟩) ?_ ?_
                  rotate_left
                  ·simp only [Act.put, List.setIfInBounds_toArray, List.set_cons_zero, List.set_cons_succ, i64_w, i32_w]
                   rfl
                  refine pure_ (i := 32) (N := some 93) (v := undef) (a' := ?_) #[true, true, true, true, true, true, true, true, true, true, true, true, true, true, true, true, true, true, true, true, true, true, true, true, true, true, true, true, true, true, true, true, true, false, false, false, false, false, false, false] rfl rfl (any_of HT_.out (by kernel_rfl)) (fun _ _ _ h => h) (Or.inr ⟨by rfl, rfl⟩) ?_ ?_
                  rotate_left
                  ·simp only [Act.put, List.setIfInBounds_toArray, List.set_cons_zero, List.set_cons_succ, i64_w, i32_w]
                   rfl
                  refine pure_ (i := 33) (N := some 94) (v := undef) (a' := ?_) #[true, true, true, true, true, true, true, true, true, true, true, true, true, true, true, true, true, true, true, true, true, true, true, true, true, true, true, true, true, true, true, true, true, true, false, false, false, false, false, false] rfl rfl (any_of HT_.out (by kernel_rfl)) (fun _ _ _ h => h) (Or.inr ⟨by rfl, rfl⟩) ?_ ?_
                  rotate_left
                  ·simp only [Act.put, List.setIfInBounds_toArray, List.set_cons_zero, List.set_cons_succ, i64_w, i32_w]
                   rfl
                  refine pure_ (i := 34) (N := some 95) (v := undef) (a' := ?_) #[true, true, true, true, true, true, true, true, true, true, true, true, true, true, true, true, true, true, true, true, true, true, true, true, true, true, true, true, true, true, true, true, true, true, true, false, false, false, false, false] rfl rfl (any_of HT_.out (by kernel_rfl)) (fun _ _ _ h => h) (Or.inr ⟨by rfl, rfl⟩) ?_ ?_
                  rotate_left
                  ·simp only [Act.put, List.setIfInBounds_toArray, List.set_cons_zero, List.set_cons_succ, i64_w, i32_w]
                   rfl
                  refine pure_ (i := 35) (N := some 96) (v := undef) (a' := ?_) #[true, true, true, true, true, true, true, true, true, true, true, true, true, true, true, true, true, true, true, true, true, true, true, true, true, true, true, true, true, true, true, true, true, true, true, true, false, false, false, false] rfl rfl (any_of HT_.out (by kernel_rfl)) (fun _ _ _ h => h) (Or.inr ⟨by rfl, rfl⟩) ?_ ?_
                  rotate_left
                  ·simp only [Act.put, List.setIfInBounds_toArray, List.set_cons_zero, List.set_cons_succ, i64_w, i32_w]
                   rfl
                  refine pure_ (i := 36) (N := some 97) (v := undef) (a' := ?_) #[true, true, true, true, true, true, true, true, true, true, true, true, true, true, true, true, true, true, true, true, true, true, true, true, true, true, true, true, true, true, true, true, true, true, true, true, true, false, false, false] rfl rfl (any_of HT_.out (by kernel_rfl)) (fun _ _ _ h => h) (Or.inr ⟨by rfl, rfl⟩) ?_ ?_
                  rotate_left
                  ·simp only [Act.put, List.setIfInBounds_toArray, List.set_cons_zero, List.set_cons_succ, i64_w, i32_w]
                   rfl
                  refine pure_ (i := 37) (N := some 98) (v := undef) (a' := ?_) #[true, true, true, true, true, true, true, true, true, true, true, true, true, true, true, true, true, true, true, true, true, true, true, true, true, true, true, true, true, true, true, true, true, true, true, true, true, true, false, false] rfl rfl (any_of HT_.out (by kernel_rfl)) (fun _ _ _ h => h) (Or.inr ⟨by rfl, rfl⟩) ?_ ?_
                  rotate_left
                  ·simp only [Act.put, List.setIfInBounds_toArray, List.set_cons_zero, List.set_cons_succ, i64_w, i32_w]
                   rfl
                  refine pure_ (i := 38) (N := some 99) (v := ?_) (a' := ?_) #[true, true, true, true, true, true, true, true, true, true, true, true, true, true, true, true, true, true, true, true, true, true, true, true, true, true, true, true, true, true, true, true, true, true, true, true, true, true, true, false] rfl rfl (any_of HT_.out (by kernel_rfl)) (fun _ _ _ h => h) (Or.inl ⟨by rfl, ?_⟩) ?_ ?_
                  rotate_left
                  ·intro w'
                   go_simp
                   with_reducible rfl
                  rotate_left
                  ·simp only [Act.put, List.setIfInBounds_toArray, List.set_cons_zero, List.set_cons_succ, i64_w, i32_w]
                   rfl
                  refine pure_ (i := 39) (N := some 100) (v := ?_) (a' := ?_) #[true, true, true, true, true, true, true, true, true, true, true, true, true, true, true, true, true, true, true, true, true, true, true, true, true, true, true, true, true, true, true, true, true, true, true, true, true, true, true, true] rfl rfl (any_of HT_.out (by kernel_rfl)) (fun _ _ _ h => h) (Or.inl ⟨by rfl, ?_⟩) ?_ ?_
                  rotate_left
                  ·intro w'
                   go_simp
                   with_reducible rfl
                  rotate_left
                  ·simp only [Act.put, List.setIfInBounds_toArray, List.set_cons_zero, List.set_cons_succ, i64_w, i32_w]
                   rfl
                  refine done_ (done_of HT_.out (by kernel_rfl)) ?_
                  try go_wp2
                  go_meet
                  case rel => exact ⟨_, (false), (by first | rfl | (simp; done) | (simp [*]; done)), H', ⟨by have := HJ4.out; have := HJ25.out; have := HK3.out; first | omega | exact Nat.le_refl _⟩, ⟨by (with_reducible repeat (first | apply Kd.R_alloc | apply Kd.R_drewN | apply Kd.R_drew)); exact HO_5.out⟩, ⟨by (with_reducible repeat (first | refine blk_drewN ?_ _ | refine blk_drew ?_ | refine blk_alloc ?_ _)); exact BK255.out⟩, ⟨by (with_reducible repeat (first | refine blk_drewN ?_ _ | refine blk_drew ?_ | refine blk_alloc ?_ _)); exact BK268.out⟩, ⟨by repeat (first | (with_reducible first | exact HB.out | apply below_alloc | apply pw_below_drewN | apply below_drew1 | refine below_set ?_ GE255.out | refine below_set ?_ GE268.out) | exact HB.out)⟩⟩
                ·rw [if_neg c58] at H
                 have c58b0 : ((wrap64 (((rd_T34 t256 x6_3).f1) - ((rd_T34 t256 x6_3).f0))) == t247) = false := beq_eq_false_iff_ne.mpr c58
                 have c58b1 : ((wrap64 (((rd_T34 t256 x6_3).f1) - ((rd_T34 t256 x6_3).f0))) != t247) = true := bne_iff_ne.mpr c58
                 exact absurd H (by first | (cases k3 <;> simp [laws_FnWinOf.j0, laws_FnWinOf.j1, laws_FnWinOf.j3]; done) | (cases kj25 <;> simp [laws_FnWinOf.j0, laws_FnWinOf.j1, laws_FnWinOf.j3]; done) | (cases k <;> simp [laws_FnWinOf.j0, laws_FnWinOf.j1, laws_FnWinOf.j3]; done))
             ·replace c49 := Bool.eq_false_iff.mpr c49
              subst c49
              have H1 : (laws_FnWinOf.j3 k3 t254 t256 x6_3 true t244 t245 t246 t247 t248 t249 t250 t251 t252 t253 ((rd_T34 t256 x6_3).f0) ((rd_T34 t256 x6_3).f1)) = some true := by rw [if_neg (show ¬ (false = true) by decide)] at H; exact H
              clear H
              have H := H1
              clear H1
              exact absurd H (by first | (cases k3 <;> simp [laws_FnWinOf.j0, laws_FnWinOf.j1, laws_FnWinOf.j3]; done) | (cases kj25 <;> simp [laws_FnWinOf.j0, laws_FnWinOf.j1, laws_FnWinOf.j3]; done) | (cases k <;> simp [laws_FnWinOf.j0, laws_FnWinOf.j1, laws_FnWinOf.j3]; done))
            case rest =>
             clear HC43
             try clear p2
             try clear c4
             try clear c5
             try clear p6
             try clear c49
             try clear c55
             try clear c58
             try clear c58b0
             try clear c58b1
             try clear p64
             obtain ⟨kq, x100_42, rfl, HA, HJ42, HO_5, BK255, BK268, HB⟩ := hcut
             cases kq with
             | zero => exact absurd HA.out (by simp [laws_FnWinOf.j3])
             | succ kj42 =>
              have H := HA.out
              clear HA
              simp only [laws_FnWinOf.j3] at H
              by_cases c75 : x100_42 = true
              ·subst c75
               have H1 : (some false) = some true := by rw [if_pos rfl] at H; exact H
               clear H
               have H := H1
               clear H1
               exact absurd H (by simp)
              ·replace c75 := Bool.eq_false_iff.mpr c75
               subst c75
               have H1 : (if t246 = 1 then (if t247 = 0 then (none) else (if (Int.tmod ((rd_T34 t256 x6_3).f0) t247) = 0 then (if t246 = 3 then (if ((rd_T34 t256 x6_3).f0) = t254 then (if t246 = 2 then (if t248 = 0 then (none) else (if (Int.tmod ((rd_T34 t256 x6_3).f0) t248) = 0 then (laws_FnWinOf.l0 kj42 t254 t256 (wrap64 (x6_3 + 1)) t244 t245 t246 t247 t248 t249 t250 t251 t252 t253) else (some false))) else (laws_FnWinOf.l0 kj42 t254 t256 (wrap64 (x6_3 + 1)) t244 t245 t246 t247 t248 t249 t250 t251 t252 t253)) else (some false)) else (if t246 = 2 then (if t248 = 0 then (none) else (if (Int.tmod ((rd_T34 t256 x6_3).f0) t248) = 0 then (laws_FnWinOf.l0 kj42 t254 t256 (wrap64 (x6_3 + 1)) t244 t245 t246 t247 t248 t249 t250 t251 t252 t253) else (some false))) else (laws_FnWinOf.l0 kj42 t254 t256 (wrap64 (x6_3 + 1)) t244 t245 t246 t247 t248 t249 t250 t251 t252 t253))) else (some false))) else (if t246 = 3 then (if ((rd_T34 t256 x6_3).f0) = t254 then (if t246 = 2 then (if t248 = 0 then (none) else (if (Int.tmod ((rd_T34 t256 x6_3).f0) t248) = 0 then (laws_FnWinOf.l0 kj42 t254 t256 (wrap64 (x6_3 + 1)) t244 t245 t246 t247 t248 t249 t250 t251 t252 t253) else (some false))) else (laws_FnWinOf.l0 kj42 t254 t256 (wrap64 (x6_3 + 1)) t244 t245 t246 t247 t248 t249 t250 t251 t252 t253)) else (some false)) else (if t246 = 2 then (if t248 = 0 then (none) else (if (Int.tmod ((rd_T34 t256 x6_3).f0) t248) = 0 then (laws_FnWinOf.l0 kj42 t254 t256 (wrap64 (x6_3 + 1)) t244 t245 t246 t247 t248 t249 t250 t251 t252 t253) else (some false))) else (laws_FnWinOf.l0 kj42 t254 t256 (wrap64 (x6_3 + 1)) t244 t245 t246 t247 t248 t249 t250 t251 t252 t253)))) = some true := by rw [if_neg (show ¬ (false = true) by decide)] at H; exact H
               clear H
               have H := H1
               clear H1
               by_cases c76 : t246 = 1
               ·rw [if_pos c76] at H
                have c76b0 : (t246 == 1) = true := beq_iff_eq.mpr c76
                have c76b1 : (t246 != 1) = false := bne_eq_false_iff_eq.mpr c76
                clear c76
                by_cases c77 : t247 = 0
                ·rw [if_pos c77] at H
                 exact absurd H (by simp)
                ·rw [if_neg c77] at H
                 have c77b0 : (t247 == 0) = false := beq_eq_false_iff_ne.mpr c77
                 have c77b1 : (t247 != 0) = true := bne_iff_ne.mpr c77
                 by_cases c78 : (Int.tmod ((rd_T34 t256 x6_3).f0) t247) = 0
                 ·rw [if_pos c78] at H
                  have c78b0 : ((Int.tmod ((rd_T34 t256 x6_3).f0) t247) == 0) = true := beq_iff_eq.mpr c78
                  have c78b1 : ((Int.tmod ((rd_T34 t256 x6_3).f0) t247) != 0) = false := bne_eq_false_iff_eq.mpr c78
                  clear c78
                  by_cases c79 : t246 = 3
                  ·rw [if_pos c79] at H
                   have c79b0 : (t246 == 3) = true := beq_iff_eq.mpr c79
                   have c79b1 : (t246 != 3) = false := bne_eq_false_iff_eq.mpr c79
                   clear c79
                   by_cases c80 : ((rd_T34 t256 x6_3).f0) = t254
                   ·rw [if_pos c80] at H
                    have c80b0 : (((rd_T34 t256 x6_3).f0) == t254) = true := beq_iff_eq.mpr c80
                    have c80b1 : (((rd_T34 t256 x6_3).f0) != t254) = false := bne_eq_false_iff_eq.mpr c80
                    clear c80
                    by_cases c81 : t246 = 2
                    ·rw [if_pos c81] at H
                     have c81b0 : (t246 == 2) = true := beq_iff_eq.mpr c81
                     have c81b1 : (t246 != 2) = false := bne_eq_false_iff_eq.mpr c81
                     clear c81
                     by_cases c82 : t248 = 0
                     ·rw [if_pos c82] at H
                      exact absurd H (by simp)
                     ·rw [if_neg c82] at H
                      have c82b0 : (t248 == 0) = false := beq_eq_false_iff_ne.mpr c82
                      have c82b1 : (t248 != 0) = true := bne_iff_ne.mpr c82
                      by_cases c83 : (Int.tmod ((rd_T34 t256 x6_3).f0) t248) = 0
                      ·rw [if_pos c83] at H
                       have c83b0 : ((Int.tmod ((rd_T34 t256 x6_3).f0) t248) == 0) = true := beq_iff_eq.mpr c83
                       have c83b1 : ((Int.tmod ((rd_T34 t256 x6_3).f0) t248) != 0) = false := bne_eq_false_iff_eq.mpr c83
                       clear c83
                       have H' := Aside0.mk H
                       clear H
                       have hnb84 := NB255_268.out
                       have hnc84 := NB268_255.out
                       have hcz85_0 : wc.cell? ⟨gb255, 0, none⟩ = some (.int .i64 t244) := (blk_cell BK255.out 0).trans rfl
                       have hcz85_1 : wc.cell? ⟨gb255, 1, none⟩ = some (.int .i64 t245) := (blk_cell BK255.out 1).trans rfl
                       have hcz85_2 : wc.cell? ⟨gb255, 2, none⟩ = some (.int .i64 t246) := (blk_cell BK255.out 2).trans rfl
                       have hcz85_3 : wc.cell? ⟨gb255, 3, none⟩ = some (.int .i64 t247) := (blk_cell BK255.out 3).trans rfl
                       have hcz85_4 : wc.cell? ⟨gb255, 4, none⟩ = some (.int .i64 t248) := (blk_cell BK255.out 4).trans rfl
                       have hcz85_5 : wc.cell? ⟨gb255, 5, none⟩ = some (.int .i64 t249) := (blk_cell BK255.out 5).trans rfl
                       have hcz85_6 : wc.cell? ⟨gb255, 6, none⟩ = some (.int .i64 t250) := (blk_cell BK255.out 6).trans rfl
                       have hcz85_7 : wc.cell? ⟨gb255, 7, none⟩ = some (.bool t251) := (blk_cell BK255.out 7).trans rfl
                       have hcz85_8 : wc.cell? ⟨gb255, 8, none⟩ = some (.int .i64 t252) := (blk_cell BK255.out 8).trans rfl
                       have hcz85_9 : wc.cell? ⟨gb255, 9, none⟩ = some (.int .i64 t253) := (blk_cell BK255.out 9).trans rfl
                       have hfz85_0 := blk_frozen BK255.out 0
                       have hfz85_1 := blk_frozen BK255.out 1
                       have hfz85_2 := blk_frozen BK255.out 2
                       have hfz85_3 := blk_frozen BK255.out 3
                       have hfz85_4 := blk_frozen BK255.out 4
                       have hfz85_5 := blk_frozen BK255.out 5
                       have hfz85_6 := blk_frozen BK255.out 6
                       have hfz85_7 := blk_frozen BK255.out 7
                       have hfz85_8 := blk_frozen BK255.out 8
                       have hfz85_9 := blk_frozen BK255.out 9
                       have hcz86_0 : wc.cell? ⟨gb268, 0, none⟩ = some (.int .i64 ((rd_T34 t256 x6_3).f0)) := (blk_cell BK268.out 0).trans rfl
                       have hcz86_1 : wc.cell? ⟨gb268, 1, none⟩ = some (.int .i64 ((rd_T34 t256 x6_3).f1)) := (blk_cell BK268.out 1).trans rfl
                       have hfz86_0 := blk_frozen BK268.out 0
                       have hfz86_1 := blk_frozen BK268.out 1
                       go_wp2
                       go_roundg kj42
                       case measure => have := HJ4.out; have := HJ25.out; have := HK3.out; have := HJ42.out; omega
                       case rel => exact ⟨(wrap64 (x6_3 + 1)), (by first | rfl | (simp; done) | (simp [*]; done)), H', ⟨by have := HJ4.out; have := HJ25.out; have := HK3.out; have := HJ42.out; omega⟩, ⟨by (with_reducible repeat (first | apply Kd.R_alloc | apply Kd.R_drewN | apply Kd.R_drew)); exact Kd.R_mono HO_5.out (fun _ hk => trivial)⟩, ⟨by (with_reducible repeat (first | refine blk_drewN ?_ _ | refine blk_drew ?_ | refine blk_alloc ?_ _)); exact BK255.out⟩, ⟨by repeat (first | (with_reducible first | exact HB.out | apply below_alloc | apply pw_below_drewN | apply below_drew1 | refine below_set ?_ GE255.out | refine below_set ?_ GE268.out) | exact HB.out)⟩⟩
                      ·rw [if_neg c83] at H
                       have c83b0 : ((Int.tmod ((rd_T34 t256 x6_3).f0) t248) == 0) = false := beq_eq_false_iff_ne.mpr c83
                       have c83b1 : ((Int.tmod ((rd_T34 t256 x6_3).f0) t248) != 0) = true := bne_iff_ne.mpr c83
                       exact absurd H (by simp)
                    ·rw [if_neg c81] at H
                     have c81b0 : (t246 == 2) = false := beq_eq_false_iff_ne.mpr c81
                     have c81b1 : (t246 != 2) = true := bne_iff_ne.mpr c81
                     have H' := Aside0.mk H
                     clear H
                     have hnb87 := NB255_268.out
                     have hnc87 := NB268_255.out
                     have hcz88_0 : wc.cell? ⟨gb255, 0, none⟩ = some (.int .i64 t244) := (blk_cell BK255.out 0).trans rfl
                     have hcz88_1 : wc.cell? ⟨gb255, 1, none⟩ = some (.int .i64 t245) := (blk_cell BK255.out 1).trans rfl
                     have hcz88_2 : wc.cell? ⟨gb255, 2, none⟩ = some (.int .i64 t246) := (blk_cell BK255.out 2).trans rfl
                     have hcz88_3 : wc.cell? ⟨gb255, 3, none⟩ = some (.int .i64 t247) := (blk_cell BK255.out 3).trans rfl
                     have hcz88_4 : wc.cell? ⟨gb255, 4, none⟩ = some (.int .i64 t248) := (blk_cell BK255.out 4).trans rfl
                     have hcz88_5 : wc.cell? ⟨gb255, 5, none⟩ = some (.int .i64 t249) := (blk_cell BK255.out 5).trans rfl
                     have hcz88_6 : wc.cell? ⟨gb255, 6, none⟩ = some (.int .i64 t250) := (blk_cell BK255.out 6).trans rfl
                     have hcz88_7 : wc.cell? ⟨gb255, 7, none⟩ = some (.bool t251) := (blk_cell BK255.out 7).trans rfl
                     have hcz88_8 : wc.cell? ⟨gb255, 8, none⟩ = some (.int .i64 t252) := (blk_cell BK255.out 8).trans rfl
                     have hcz88_9 : wc.cell? ⟨gb255, 9, none⟩ = some (.int .i64 t253) := (blk_cell BK255.out 9).trans rfl
                     have hfz88_0 := blk_frozen BK255.out 0
                     have hfz88_1 := blk_frozen BK255.out 1
                     have hfz88_2 := blk_frozen BK255.out 2
                     have hfz88_3 := blk_frozen BK255.out 3
                     have hfz88_4 := blk_frozen BK255.out 4
                     have hfz88_5 := blk_frozen BK255.out 5
                     have hfz88_6 := blk_frozen BK255.out 6
                     have hfz88_7 := blk_frozen BK255.out 7
                     have hfz88_8 := blk_frozen BK255.out 8
                     have hfz88_9 := blk_frozen BK255.out 9
                     have hcz89_0 : wc.cell? ⟨gb268, 0, none⟩ = some (.int .i64 ((rd_T34 t256 x6_3).f0)) := (blk_cell BK268.out 0).trans rfl
                     have hcz89_1 : wc.cell? ⟨gb268, 1, none⟩ = some (.int .i64 ((rd_T34 t256 x6_3).f1)) := (blk_cell BK268.out 1).trans rfl
                     have hfz89_0 := blk_frozen BK268.out 0
                     have hfz89_1 := blk_frozen BK268.out 1
                     go_wp2
                     go_roundg kj42
                     case measure => have := HJ4.out; have := HJ25.out; have := HK3.out; have := HJ42.out; omega
                     case rel => exact ⟨(wrap64 (x6_3 + 1)), (by first | rfl | (simp; done) | (simp [*]; done)), H', ⟨by have := HJ4.out; have := HJ25.out; have := HK3.out; have := HJ42.out; omega⟩, ⟨by (with_reducible repeat (first | apply Kd.R_alloc | apply Kd.R_drewN | apply Kd.R_drew)); exact Kd.R_mono HO_5.out (fun _ hk => trivial)⟩, ⟨by (with_reducible repeat (first | refine blk_drewN ?_ _ | refine blk_drew ?_ | refine blk_alloc ?_ _)); exact BK255.out⟩, ⟨by repeat (first | (with_reducible first | exact HB.out | apply below_alloc | apply pw_below_drewN | apply below_drew1 | refine below_set ?_ GE255.out | refine below_set ?_ GE268.out) | exact HB.out)⟩⟩
                   ·rw [if_neg c80] at H
                    have c80b0 : (((rd_T34 t256 x6_3).f0) == t254) = false := beq_eq_false_iff_ne.mpr c80
                    have c80b1 : (((rd_T34 t256 x6_3).f0) != t254) = true := bne_iff_ne.mpr c80
                    exact absurd H (by simp)
                  ·rw [if_neg c79] at H
                   have c79b0 : (t246 == 3) = false := beq_eq_false_iff_ne.mpr c79
                   have c79b1 : (t246 != 3) = true := bne_iff_ne.mpr c79
                   by_cases c90 : t246 = 2
                   ·rw [if_pos c90] at H
                    have c90b0 : (t246 == 2) = true := beq_iff_eq.mpr c90
                    have c90b1 : (t246 != 2) = false := bne_eq_false_iff_eq.mpr c90
                    clear c90
                    by_cases c91 : t248 = 0
                    ·rw [if_pos c91] at H
                     exact absurd H (by simp)
                    ·rw [if_neg c91] at H
                     have c91b0 : (t248 == 0) = false := beq_eq_false_iff_ne.mpr c91
                     have c91b1 : (t248 != 0) = true := bne_iff_ne.mpr c91
                     by_cases c92 : (Int.tmod ((rd_T34 t256 x6_3).f0) t248) = 0
                     ·rw [if_pos c92] at H
                      have c92b0 : ((Int.tmod ((rd_T34 t256 x6_3).f0) t248) == 0) = true := beq_iff_eq.mpr c92
                      have c92b1 : ((Int.tmod ((rd_T34 t256 x6_3).f0) t248) != 0) = false := bne_eq_false_iff_eq.mpr c92
                      clear c92
                      have H' := Aside0.mk H
                      clear H
                      have hnb93 := NB255_268.out
                      have hnc93 := NB268_255.out
                      have hcz94_0 : wc.cell? ⟨gb255, 0, none⟩ = some (.int .i64 t244) := (blk_cell BK255.out 0).trans rfl
                      have hcz94_1 : wc.cell? ⟨gb255, 1, none⟩ = some (.int .i64 t245) := (blk_cell BK255.out 1).trans rfl
                      have hcz94_2 : wc.cell? ⟨gb255, 2, none⟩ = some (.int .i64 t246) := (blk_cell BK255.out 2).trans rfl
                      have hcz94_3 : wc.cell? ⟨gb255, 3, none⟩ = some (.int .i64 t247) := (blk_cell BK255.out 3).trans rfl
                      have hcz94_4 : wc.cell? ⟨gb255, 4, none⟩ = some (.int .i64 t248) := (blk_cell BK255.out 4).trans rfl
                      have hcz94_5 : wc.cell? ⟨gb255, 5, none⟩ = some (.int .i64 t249) := (blk_cell BK255.out 5).trans rfl
                      have hcz94_6 : wc.cell? ⟨gb255, 6, none⟩ = some (.int .i64 t250) := (blk_cell BK255.out 6).trans rfl
                      have hcz94_7 : wc.cell? ⟨gb255, 7, none⟩ = some (.bool t251) := (blk_cell BK255.out 7).trans rfl
                      have hcz94_8 : wc.cell? ⟨gb255, 8, none⟩ = some (.int .i64 t252) := (blk_cell BK255.out 8).trans rfl
                      have hcz94_9 : wc.cell? ⟨gb255, 9, none⟩ = some (.int .i64 t253) := (blk_cell BK255.out 9).trans rfl
                      have hfz94_0 := blk_frozen BK255.out 0
                      have hfz94_1 := blk_frozen BK255.out 1
                      have hfz94_2 := blk_frozen BK255.out 2
                      have hfz94_3 := blk_frozen BK255.out 3
                      have hfz94_4 := blk_frozen BK255.out 4
                      have hfz94_5 := blk_frozen BK255.out 5
                      have hfz94_6 := blk_frozen BK255.out 6
                      have hfz94_7 := blk_frozen BK255.out 7
                      have hfz94_8 := blk_frozen BK255.out 8
                      have hfz94_9 := blk_frozen BK255.out 9
                      have hcz95_0 : wc.cell? ⟨gb268, 0, none⟩ = some (.int .i64 ((rd_T34 t256 x6_3).f0)) := (blk_cell BK268.out 0).trans rfl
                      have hcz95_1 : wc.cell? ⟨gb268, 1, none⟩ = some (.int .i64 ((rd_T34 t256 x6_3).f1)) := (blk_cell BK268.out 1).trans rfl
                      have hfz95_0 := blk_frozen BK268.out 0
                      have hfz95_1 := blk_frozen BK268.out 1
                      go_wp2
                      go_roundg kj42
                      case measure => have := HJ4.out; have := HJ25.out; have := HK3.out; have := HJ42.out; omega
                      case rel => exact ⟨(wrap64 (x6_3 + 1)), (by first | rfl | (simp; done) | (simp [*]; done)), H', ⟨by have := HJ4.out; have := HJ25.out; have := HK3.out; have := HJ42.out; omega⟩, ⟨by (with_reducible repeat (first | apply Kd.R_alloc | apply Kd.R_drewN | apply Kd.R_drew)); exact Kd.R_mono HO_5.out (fun _ hk => trivial)⟩, ⟨by (with_reducible repeat (first | refine blk_drewN ?_ _ | refine blk_drew ?_ | refine blk_alloc ?_ _)); exact BK255.out⟩, ⟨by repeat (first | (with_reducible first | exact HB.out | apply below_alloc | apply pw_below_drewN | apply below_drew1 | refine below_set ?_ GE255.out | refine below_set ?_ GE268.out) | exact HB.out)⟩⟩
                     ·rw [if_neg c92] at H
                      have c92b0 : ((Int.tmod ((rd_T34 t256 x6_3).f0) t248) == 0) = false := beq_eq_false_iff_ne.mpr c92
                      have c92b1 : ((Int.tmod ((rd_T34 t256 x6_3).f0) t248) != 0) = true := bne_iff_ne.mpr c92
                      exact absurd H (by simp)
                   ·rw [if_neg c90] at H
                    have c90b0 : (t246 == 2) = false := beq_eq_false_iff_ne.mpr c90
                    have c90b1 : (t246 != 2) = true := bne_iff_ne.mpr c90
                    have H' := Aside0.mk H
                    clear H
                    have hnb96 := NB255_268.out
                    have hnc96 := NB268_255.out
                    have hcz97_0 : wc.cell? ⟨gb255, 0, none⟩ = some (.int .i64 t244) := (blk_cell BK255.out 0).trans rfl
                    have hcz97_1 : wc.cell? ⟨gb255, 1, none⟩ = some (.int .i64 t245) := (blk_cell BK255.out 1).trans rfl
                    have hcz97_2 : wc.cell? ⟨gb255, 2, none⟩ = some (.int .i64 t246) := (blk_cell BK255.out 2).trans rfl
                    have hcz97_3 : wc.cell? ⟨gb255, 3, none⟩ = some (.int .i64 t247) := (blk_cell BK255.out 3).trans rfl
                    have hcz97_4 : wc.cell? ⟨gb255, 4, none⟩ = some (.int .i64 t248) := (blk_cell BK255.out 4).trans rfl
                    have hcz97_5 : wc.cell? ⟨gb255, 5, none⟩ = some (.int .i64 t249) := (blk_cell BK255.out 5).trans rfl
                    have hcz97_6 : wc.cell? ⟨gb255, 6, none⟩ = some (.int .i64 t250) := (blk_cell BK255.out 6).trans rfl
                    have hcz97_7 : wc.cell? ⟨gb255, 7, none⟩ = some (.bool t251) := (blk_cell BK255.out 7).trans rfl
                    have hcz97_8 : wc.cell? ⟨gb255, 8, none⟩ = some (.int .i64 t252) := (blk_cell BK255.out 8).trans rfl
                    have hcz97_9 : wc.cell? ⟨gb255, 9, none⟩ = some (.int .i64 t253) := (blk_cell BK255.out 9).trans rfl
                    have hfz97_0 := blk_frozen BK255.out 0
                    have hfz97_1 := blk_frozen BK255.out 1
                    have hfz97_2 := blk_frozen BK255.out 2
                    have hfz97_3 := blk_frozen BK255.out 3
                    have hfz97_4 := blk_frozen BK255.out 4
                    have hfz97_5 := blk_frozen BK255.out 5
                    have hfz97_6 := blk_frozen BK255.out 6
                    have hfz97_7 := blk_frozen BK255.out 7
                    have hfz97_8 := blk_frozen BK255.out 8
                    have hfz97_9 := blk_frozen BK255.out 9
                    have hcz98_0 : wc.cell? ⟨gb268, 0, none⟩ = some (.int .i64 ((rd_T34 t256 x6_3).f0)) := (blk_cell BK268.out 0).trans rfl
                    have hcz98_1 : wc.cell? ⟨gb268, 1, none⟩ = some (.int .i64 ((rd_T34 t256 x6_3).f1)) := (blk_cell BK268.out 1).trans rfl
                    have hfz98_0 := blk_frozen BK268.out 0
                    have hfz98_1 := blk_frozen BK268.out 1
                    go_wp2
                    go_roundg kj42
                    case measure => have := HJ4.out; have := HJ25.out; have := HK3.out; have := HJ42.out; omega
                    case rel => exact ⟨(wrap64 (x6_3 + 1)), (by first | rfl | (simp; done) | (simp [*]; done)), H', ⟨by have := HJ4.out; have := HJ25.out; have := HK3.out; have := HJ42.out; omega⟩, ⟨by (with_reducible repeat (first | apply Kd.R_alloc | apply Kd.R_drewN | apply Kd.R_drew)); exact Kd.R_mono HO_5.out (fun _ hk => trivial)⟩, ⟨by (with_reducible repeat (first | refine blk_drewN ?_ _ | refine blk_drew ?_ | refine blk_alloc ?_ _)); exact BK255.out⟩, ⟨by repeat (first | (with_reducible first | exact HB.out | apply below_alloc | apply pw_below_drewN | apply below_drew1 | refine below_set ?_ GE255.out | refine below_set ?_ GE268.out) | exact HB.out)⟩⟩
                 ·rw [if_neg c78] at H
                  have c78b0 : ((Int.tmod ((rd_T34 t256 x6_3).f0) t247) == 0) = false := beq_eq_false_iff_ne.mpr c78
                  have c78b1 : ((Int.tmod ((rd_T34 t256 x6_3).f0) t247) != 0) = true := bne_iff_ne.mpr c78
                  exact absurd H (by simp)
               ·rw [if_neg c76] at H
                have c76b0 : (t246 == 1) = false := beq_eq_false_iff_ne.mpr c76
                have c76b1 : (t246 != 1) = true := bne_iff_ne.mpr c76
                by_cases c99 : t246 = 3
                ·rw [if_pos c99] at H
                 have c99b0 : (t246 == 3) = true := beq_iff_eq.mpr c99
                 have c99b1 : (t246 != 3) = false := bne_eq_false_iff_eq.mpr c99
                 clear c99
                 by_cases c100 : ((rd_T34 t256 x6_3).f0) = t254
                 ·rw [if_pos c100] at H
                  have c100b0 : (((rd_T34 t256 x6_3).f0) == t254) = true := beq_iff_eq.mpr c100
                  have c100b1 : (((rd_T34 t256 x6_3).f0) != t254) = false := bne_eq_false_iff_eq.mpr c100
                  clear c100
                  by_cases c101 : t246 = 2
                  ·rw [if_pos c101] at H
                   have c101b0 : (t246 == 2) = true := beq_iff_eq.mpr c101
                   have c101b1 : (t246 != 2) = false := bne_eq_false_iff_eq.mpr c101
                   clear c101
                   by_cases c102 : t248 = 0
                   ·rw [if_pos c102] at H
                    exact absurd H (by simp)
                   ·rw [if_neg c102] at H
                    have c102b0 : (t248 == 0) = false := beq_eq_false_iff_ne.mpr c102
                    have c102b1 : (t248 != 0) = true := bne_iff_ne.mpr c102
                    by_cases c103 : (Int.tmod ((rd_T34 t256 x6_3).f0) t248) = 0
                    ·rw [if_pos c103] at H
                     have c103b0 : ((Int.tmod ((rd_T34 t256 x6_3).f0) t248) == 0) = true := beq_iff_eq.mpr c103
                     have c103b1 : ((Int.tmod ((rd_T34 t256 x6_3).f0) t248) != 0) = false := bne_eq_false_iff_eq.mpr c103
                     clear c103
                     have H' := Aside0.mk H
                     clear H
                     have hnb104 := NB255_268.out
                     have hnc104 := NB268_255.out
                     have hcz105_0 : wc.cell? ⟨gb255, 0, none⟩ = some (.int .i64 t244) := (blk_cell BK255.out 0).trans rfl
                     have hcz105_1 : wc.cell? ⟨gb255, 1, none⟩ = some (.int .i64 t245) := (blk_cell BK255.out 1).trans rfl
                     have hcz105_2 : wc.cell? ⟨gb255, 2, none⟩ = some (.int .i64 t246) := (blk_cell BK255.out 2).trans rfl
                     have hcz105_3 : wc.cell? ⟨gb255, 3, none⟩ = some (.int .i64 t247) := (blk_cell BK255.out 3).trans rfl
                     have hcz105_4 : wc.cell? ⟨gb255, 4, none⟩ = some (.int .i64 t248) := (blk_cell BK255.out 4).trans rfl
                     have hcz105_5 : wc.cell? ⟨gb255, 5, none⟩ = some (.int .i64 t249) := (blk_cell BK255.out 5).trans rfl
                     have hcz105_6 : wc.cell? ⟨gb255, 6, none⟩ = some (.int .i64 t250) := (blk_cell BK255.out 6).trans rfl
                     have hcz105_7 : wc.cell? ⟨gb255, 7, none⟩ = some (.bool t251) := (blk_cell BK255.out 7).trans rfl
                     have hcz105_8 : wc.cell? ⟨gb255, 8, none⟩ = some (.int .i64 t252) := (blk_cell BK255.out 8).trans rfl
                     have hcz105_9 : wc.cell? ⟨gb255, 9, none⟩ = some (.int .i64 t253) := (blk_cell BK255.out 9).trans rfl
                     have hfz105_0 := blk_frozen BK255.out 0
                     have hfz105_1 := blk_frozen BK255.out 1
                     have hfz105_2 := blk_frozen BK255.out 2
                     have hfz105_3 := blk_frozen BK255.out 3
                     have hfz105_4 := blk_frozen BK255.out 4
                     have hfz105_5 := blk_frozen BK255.out 5
                     have hfz105_6 := blk_frozen BK255.out 6
                     have hfz105_7 := blk_frozen BK255.out 7
                     have hfz105_8 := blk_frozen BK255.out 8
                     have hfz105_9 := blk_frozen BK255.out 9
                     have hcz106_0 : wc.cell? ⟨gb268, 0, none⟩ = some (.int .i64 ((rd_T34 t256 x6_3).f0)) := (blk_cell BK268.out 0).trans rfl
                     have hcz106_1 : wc.cell? ⟨gb268, 1, none⟩ = some (.int .i64 ((rd_T34 t256 x6_3).f1)) := (blk_cell BK268.out 1).trans rfl
                     have hfz106_0 := blk_frozen BK268.out 0
                     have hfz106_1 := blk_frozen BK268.out 1
                     go_wp2
                     go_roundg kj42
                     case measure => have := HJ4.out; have := HJ25.out; have := HK3.out; have := HJ42.out; omega
                     case rel => exact ⟨(wrap64 (x6_3 + 1)), (by first | rfl | (simp; done) | (simp [*]; done)), H', ⟨by have := HJ4.out; have := HJ25.out; have := HK3.out; have := HJ42.out; omega⟩, ⟨by (with_reducible repeat (first | apply Kd.R_alloc | apply Kd.R_drewN | apply Kd.R_drew)); exact Kd.R_mono HO_5.out (fun _ hk => trivial)⟩, ⟨by (with_reducible repeat (first | refine blk_drewN ?_ _ | refine blk_drew ?_ | refine blk_alloc ?_ _)); exact BK255.out⟩, ⟨by repeat (first | (with_reducible first | exact HB.out | apply below_alloc | apply pw_below_drewN | apply below_drew1 | refine below_set ?_ GE255.out | refine below_set ?_ GE268.out) | exact HB.out)⟩⟩
                    ·rw [if_neg c103] at H
                     have c103b0 : ((Int.tmod ((rd_T34 t256 x6_3).f0) t248) == 0) = false := beq_eq_false_iff_ne.mpr c103
                     have c103b1 : ((Int.tmod ((rd_T34 t256 x6_3).f0) t248) != 0) = true := bne_iff_ne.mpr c103
                     exact absurd H (by simp)
                  ·rw [if_neg c101] at H
                   have c101b0 : (t246 == 2) = false := beq_eq_false_iff_ne.mpr c101
                   have c101b1 : (t246 != 2) = true := bne_iff_ne.mpr c101
                   have H' := Aside0.mk H
                   clear H
                   have hnb107 := NB255_268.out
                   have hnc107 := NB268_255.out
                   have hcz108_0 : wc.cell? ⟨gb255, 0, none⟩ = some (.int .i64 t244) := (blk_cell BK255.out 0).trans rfl
                   have hcz108_1 : wc.cell? ⟨gb255, 1, none⟩ = some (.int .i64 t245) := (blk_cell BK255.out 1).trans rfl
                   have hcz108_2 : wc.cell? ⟨gb255, 2, none⟩ = some (.int .i64 t246) := (blk_cell BK255.out 2).trans rfl
                   have hcz108_3 : wc.cell? ⟨gb255, 3, none⟩ = some (.int .i64 t247) := (blk_cell BK255.out 3).trans rfl
                   have hcz108_4 : wc.cell? ⟨gb255, 4, none⟩ = some (.int .i64 t248) := (blk_cell BK255.out 4).trans rfl
                   have hcz108_5 : wc.cell? ⟨gb255, 5, none⟩ = some (.int .i64 t249) := (blk_cell BK255.out 5).trans rfl
                   have hcz108_6 : wc.cell? ⟨gb255, 6, none⟩ = some (.int .i64 t250) := (blk_cell BK255.out 6).trans rfl
                   have hcz108_7 : wc.cell? ⟨gb255, 7, none⟩ = some (.bool t251) := (blk_cell BK255.out 7).trans rfl
                   have hcz108_8 : wc.cell? ⟨gb255, 8, none⟩ = some (.int .i64 t252) := (blk_cell BK255.out 8).trans rfl
                   have hcz108_9 : wc.cell? ⟨gb255, 9, none⟩ = some (.int .i64 t253) := (blk_cell BK255.out 9).trans rfl
                   have hfz108_0 := blk_frozen BK255.out 0
                   have hfz108_1 := blk_frozen BK255.out 1
                   have hfz108_2 := blk_frozen BK255.out 2
                   have hfz108_3 := blk_frozen BK255.out 3
                   have hfz108_4 := blk_frozen BK255.out 4
                   have hfz108_5 := blk_frozen BK255.out 5
                   have hfz108_6 := blk_frozen BK255.out 6
                   have hfz108_7 := blk_frozen BK255.out 7
                   have hfz108_8 := blk_frozen BK255.out 8
                   have hfz108_9 := blk_frozen BK255.out 9
                   have hcz109_0 : wc.cell? ⟨gb268, 0, none⟩ = some (.int .i64 ((rd_T34 t256 x6_3).f0)) := (blk_cell BK268.out 0).trans rfl
                   have hcz109_1 : wc.cell? ⟨gb268, 1, none⟩ = some (.int .i64 ((rd_T34 t256 x6_3).f1)) := (blk_cell BK268.out 1).trans rfl
                   have hfz109_0 := blk_frozen BK268.out 0
                   have hfz109_1 := blk_frozen BK268.out 1
                   go_wp2
                   go_roundg kj42
                   case measure => have := HJ4.out; have := HJ25.out; have := HK3.out; have := HJ42.out; omega
                   case rel => exact ⟨(wrap64 (x6_3 + 1)), (by first | rfl | (simp; done) | (simp [*]; done)), H', ⟨by have := HJ4.out; have := HJ25.out; have := HK3.out; have := HJ42.out; omega⟩, ⟨by (with_reducible repeat (first | apply Kd.R_alloc | apply Kd.R_drewN | apply Kd.R_drew)); exact Kd.R_mono HO_5.out (fun _ hk => trivial)⟩, ⟨by (with_reducible repeat (first | refine blk_drewN ?_ _ | refine blk_drew ?_ | refine blk_alloc ?_ _)); exact BK255.out⟩, ⟨by repeat (first | (with_reducible first | exact HB.out | apply below_alloc | apply pw_below_drewN | apply below_drew1 | refine below_set ?_ GE255.out | refine below_set ?_ GE268.out) | exact HB.out)⟩⟩
                 ·rw [if_neg c100] at H
                  have c100b0 : (((rd_T34 t256 x6_3).f0) == t254) = false := beq_eq_false_iff_ne.mpr c100
                  have c100b1 : (((rd_T34 t256 x6_3).f0) != t254) = true := bne_iff_ne.mpr c100
                  exact absurd H (by simp)
                ·rw [if_neg c99] at H
                 have c99b0 : (t246 == 3) = false := beq_eq_false_iff_ne.mpr c99
                 have c99b1 : (t246 != 3) = true := bne_iff_ne.mpr c99
                 by_cases c110 : t246 = 2
                 ·rw [if_pos c110] at H
                  have c110b0 : (t246 == 2) = true := beq_iff_eq.mpr c110
                  have c110b1 : (t246 != 2) = false := bne_eq_false_iff_eq.mpr c110
                  clear c110
                  by_cases c111 : t248 = 0
                  ·rw [if_pos c111] at H
                   exact absurd H (by simp)
                  ·rw [if_neg c111] at H
                   have c111b0 : (t248 == 0) = false := beq_eq_false_iff_ne.mpr c111
                   have c111b1 : (t248 != 0) = true := bne_iff_ne.mpr c111
                   by_cases c112 : (Int.tmod ((rd_T34 t256 x6_3).f0) t248) = 0
                   ·rw [if_pos c112] at H
                    have c112b0 : ((Int.tmod ((rd_T34 t256 x6_3).f0) t248) == 0) = true := beq_iff_eq.mpr c112
                    have c112b1 : ((Int.tmod ((rd_T34 t256 x6_3).f0) t248) != 0) = false := bne_eq_false_iff_eq.mpr c112
                    clear c112
                    have H' := Aside0.mk H
                    clear H
                    have hnb113 := NB255_268.out
                    have hnc113 := NB268_255.out
                    have hcz114_0 : wc.cell? ⟨gb255, 0, none⟩ = some (.int .i64 t244) := (blk_cell BK255.out 0).trans rfl
                    have hcz114_1 : wc.cell? ⟨gb255, 1, none⟩ = some (.int .i64 t245) := (blk_cell BK255.out 1).trans rfl
                    have hcz114_2 : wc.cell? ⟨gb255, 2, none⟩ = some (.int .i64 t246) := (blk_cell BK255.out 2).trans rfl
                    have hcz114_3 : wc.cell? ⟨gb255, 3, none⟩ = some (.int .i64 t247) := (blk_cell BK255.out 3).trans rfl
                    have hcz114_4 : wc.cell? ⟨gb255, 4, none⟩ = some (.int .i64 t248) := (blk_cell BK255.out 4).trans rfl
                    have hcz114_5 : wc.cell? ⟨gb255, 5, none⟩ = some (.int .i64 t249) := (blk_cell BK255.out 5).trans rfl
                    have hcz114_6 : wc.cell? ⟨gb255, 6, none⟩ = some (.int .i64 t250) := (blk_cell BK255.out 6).trans rfl
                    have hcz114_7 : wc.cell? ⟨gb255, 7, none⟩ = some (.bool t251) := (blk_cell BK255.out 7).trans rfl
                    have hcz114_8 : wc.cell? ⟨gb255, 8, none⟩ = some (.int .i64 t252) := (blk_cell BK255.out 8).trans rfl
                    have hcz114_9 : wc.cell? ⟨gb255, 9, none⟩ = some (.int .i64 t253) := (blk_cell BK255.out 9).trans rfl
                    have hfz114_0 := blk_frozen BK255.out 0
                    have hfz114_1 := blk_frozen BK255.out 1
                    have hfz114_2 := blk_frozen BK255.out 2
                    have hfz114_3 := blk_frozen BK255.out 3
                    have hfz114_4 := blk_frozen BK255.out 4
                    have hfz114_5 := blk_frozen BK255.out 5
                    have hfz114_6 := blk_frozen BK255.out 6
                    have hfz114_7 := blk_frozen BK255.out 7
                    have hfz114_8 := blk_frozen BK255.out 8
                    have hfz114_9 := blk_frozen BK255.out 9
                    have hcz115_0 : wc.cell? ⟨gb268, 0, none⟩ = some (.int .i64 ((rd_T34 t256 x6_3).f0)) := (blk_cell BK268.out 0).trans rfl
                    have hcz115_1 : wc.cell? ⟨gb268, 1, none⟩ = some (.int .i64 ((rd_T34 t256 x6_3).f1)) := (blk_cell BK268.out 1).trans rfl
                    have hfz115_0 := blk_frozen BK268.out 0
                    have hfz115_1 := blk_frozen BK268.out 1
                    go_wp2
                    go_roundg kj42
                    case measure => have := HJ4.out; have := HJ25.out; have := HK3.out; have := HJ42.out; omega
                    case rel => exact ⟨(wrap64 (x6_3 + 1)), (by first | rfl | (simp; done) | (simp [*]; done)), H', ⟨by have := HJ4.out; have := HJ25.out; have := HK3.out; have := HJ42.out; omega⟩, ⟨by (with_reducible repeat (first | apply Kd.R_alloc | apply Kd.R_drewN | apply Kd.R_drew)); exact Kd.R_mono HO_5.out (fun _ hk => trivial)⟩, ⟨by (with_reducible repeat (first | refine blk_drewN ?_ _ | refine blk_drew ?_ | refine blk_alloc ?_ _)); exact BK255.out⟩, ⟨by repeat (first | (with_reducible first | exact HB.out | apply below_alloc | apply pw_below_drewN | apply below_drew1 | refine below_set ?_ GE255.out | refine below_set ?_ GE268.out) | exact HB.out)⟩⟩
                   ·rw [if_neg c112] at H
                    have c112b0 : ((Int.tmod ((rd_T34 t256 x6_3).f0) t248) == 0) = false := beq_eq_false_iff_ne.mpr c112
                    have c112b1 : ((Int.tmod ((rd_T34 t256 x6_3).f0) t248) != 0) = true := bne_iff_ne.mpr c112
                    exact absurd H (by simp)
                 ·rw [if_neg c110] at H
                  have c110b0 : (t246 == 2) = false := beq_eq_false_iff_ne.mpr c110
                  have c110b1 : (t246 != 2) = true := bne_iff_ne.mpr c110
                  have H' := Aside0.mk H
                  clear H
                  have hnb116 := NB255_268.out
                  have hnc116 := NB268_255.out
                  have hcz117_0 : wc.cell? ⟨gb255, 0, none⟩ = some (.int .i64 t244) := (blk_cell BK255.out 0).trans rfl
                  have hcz117_1 : wc.cell? ⟨gb255, 1, none⟩ = some (.int .i64 t245) := (blk_cell BK255.out 1).trans rfl
                  have hcz117_2 : wc.cell? ⟨gb255, 2, none⟩ = some (.int .i64 t246) := (blk_cell BK255.out 2).trans rfl
                  have hcz117_3 : wc.cell? ⟨gb255, 3, none⟩ = some (.int .i64 t247) := (blk_cell BK255.out 3).trans rfl
                  have hcz117_4 : wc.cell? ⟨gb255, 4, none⟩ = some (.int .i64 t248) := (blk_cell BK255.out 4).trans rfl
                  have hcz117_5 : wc.cell? ⟨gb255, 5, none⟩ = some (.int .i64 t249) := (blk_cell BK255.out 5).trans rfl
                  have hcz117_6 : wc.cell? ⟨gb255, 6, none⟩ = some (.int .i64 t250) := (blk_cell BK255.out 6).trans rfl
                  have hcz117_7 : wc.cell? ⟨gb255, 7, none⟩ = some (.bool t251) := (blk_cell BK255.out 7).trans rfl
                  have hcz117_8 : wc.cell? ⟨gb255, 8, none⟩ = some (.int .i64 t252) := (blk_cell BK255.out 8).trans rfl
                  have hcz117_9 : wc.cell? ⟨gb255, 9, none⟩ = some (.int .i64 t253) := (blk_cell BK255.out 9).trans rfl
                  have hfz117_0 := blk_frozen BK255.out 0
                  have hfz117_1 := blk_frozen BK255.out 1
                  have hfz117_2 := blk_frozen BK255.out 2
                  have hfz117_3 := blk_frozen BK255.out 3
                  have hfz117_4 := blk_frozen BK255.out 4
                  have hfz117_5 := blk_frozen BK255.out 5
                  have hfz117_6 := blk_frozen BK255.out 6
                  have hfz117_7 := blk_frozen BK255.out 7
                  have hfz117_8 := blk_frozen BK255.out 8
                  have hfz117_9 := blk_frozen BK255.out 9
                  go_wp2
                  go_roundg kj42
                  case measure => have := HJ4.out; have := HJ25.out; have := HK3.out; have := HJ42.out; omega
                  case rel => exact ⟨(wrap64 (x6_3 + 1)), (by first | rfl | (simp; done) | (simp [*]; done)), H', ⟨by have := HJ4.out; have := HJ25.out; have := HK3.out; have := HJ42.out; omega⟩, ⟨by (with_reducible repeat (first | apply Kd.R_alloc | apply Kd.R_drewN | apply Kd.R_drew)); exact Kd.R_mono HO_5.out (fun _ hk => trivial)⟩, ⟨by (with_reducible repeat (first | refine blk_drewN ?_ _ | refine blk_drew ?_ | refine blk_alloc ?_ _)); exact BK255.out⟩, ⟨by repeat (first | (with_reducible first | exact HB.out | apply below_alloc | apply pw_below_drewN | apply below_drew1 | refine below_set ?_ GE255.out | refine below_set ?_ GE268.out) | exact HB.out)⟩⟩
           ·rw [if_neg c42] at H
            exact absurd H (by simp)
          ·rw [if_neg c41] at H
           have c41b0 : decide (x6_3 < (t256.length : Int)) = false := decide_eq_false c41
           clear c41
           by_cases c118 : t246 = 2
           ·rw [if_pos c118] at H
            have c118b0 : (t246 == 2) = true := beq_iff_eq.mpr c118
            have c118b1 : (t246 != 2) = false := bne_eq_false_iff_eq.mpr c118
            clear c118
            have H' := Aside0.mk H
            clear H
            obtain ⟨Ao119, co119, eo119⟩ := Kd.R_slice HO_5.out
            subst eo119
            have hcz120_0 : wr.cell? ⟨gb255, 0, none⟩ = some (.int .i64 t244) := (blk_cell BK255.out 0).trans rfl
            have hcz120_1 : wr.cell? ⟨gb255, 1, none⟩ = some (.int .i64 t245) := (blk_cell BK255.out 1).trans rfl
            have hcz120_2 : wr.cell? ⟨gb255, 2, none⟩ = some (.int .i64 t246) := (blk_cell BK255.out 2).trans rfl
            have hcz120_3 : wr.cell? ⟨gb255, 3, none⟩ = some (.int .i64 t247) := (blk_cell BK255.out 3).trans rfl
            have hcz120_4 : wr.cell? ⟨gb255, 4, none⟩ = some (.int .i64 t248) := (blk_cell BK255.out 4).trans rfl
            have hcz120_5 : wr.cell? ⟨gb255, 5, none⟩ = some (.int .i64 t249) := (blk_cell BK255.out 5).trans rfl
            have hcz120_6 : wr.cell? ⟨gb255, 6, none⟩ = some (.int .i64 t250) := (blk_cell BK255.out 6).trans rfl
            have hcz120_7 : wr.cell? ⟨gb255, 7, none⟩ = some (.bool t251) := (blk_cell BK255.out 7).trans rfl
            have hcz120_8 : wr.cell? ⟨gb255, 8, none⟩ = some (.int .i64 t252) := (blk_cell BK255.out 8).trans rfl
            have hcz120_9 : wr.cell? ⟨gb255, 9, none⟩ = some (.int .i64 t253) := (blk_cell BK255.out 9).trans rfl
            have hfz120_0 := blk_frozen BK255.out 0
            have hfz120_1 := blk_frozen BK255.out 1
            have hfz120_2 := blk_frozen BK255.out 2
            have hfz120_3 := blk_frozen BK255.out 3
            have hfz120_4 := blk_frozen BK255.out 4
            have hfz120_5 := blk_frozen BK255.out 5
            have hfz120_6 := blk_frozen BK255.out 6
            have hfz120_7 := blk_frozen BK255.out 7
            have hfz120_8 := blk_frozen BK255.out 8
            have hfz120_9 := blk_frozen BK255.out 9
            go_wp2
            go_loopg [8, 9] k3 (fun kq v8 v9 w' => ∃ (x8_4 : Int) (x9_4 : Int), v8 = .int .i64 x8_4 ∧ v9 = .int .i64 x9_4 ∧ Aside0 (laws_FnWinOf.l1 kq t254 t256 x8_4 x9_4 t244 t245 t246 t247 t248 t249 t250 t251 t252 t253 = some true) ∧ Aside0 (kq ≤ k3) ∧ Aside0 (Kd.R k34 34 w' w.heap.size (fun _ => True) (.slice Ao119 t256.length co119) t256) ∧ Aside0 (w'.heap[gb255]? = some (.cells #[.int .i64 t244, .int .i64 t245, .int .i64 t246, .int .i64 t247, .int .i64 t248, .int .i64 t249, .int .i64 t250, .bool t251, .int .i64 t252, .int .i64 t253] 50 (0, 0))) ∧ Aside0 (Below w.heap.size w w'))
            case atStart => exact ⟨(0), (0), (by first | rfl | (simp; done) | (simp [*]; done)), (by first | rfl | (simp; done) | (simp [*]; done)), H', ⟨Nat.le_refl _⟩, ⟨by (with_reducible repeat (first | apply Kd.R_alloc | apply Kd.R_drewN | apply Kd.R_drew)); exact HO_5.out⟩, ⟨by (with_reducible repeat (first | refine blk_drewN ?_ _ | refine blk_drew ?_ | refine blk_alloc ?_ _)); exact BK255.out⟩, ⟨by repeat (first | (with_reducible first | exact HB.out | apply below_alloc | apply pw_below_drewN | apply below_drew1 | refine below_set ?_ GE255.out) | exact HB.out)⟩⟩
            case round =>
             clear H'
             try clear c1
             try clear p2
             try clear c4
             try clear c5
             try clear p6
             try clear c7
             try clear c8
             try clear c9
             try clear c10
             try clear c11
             try clear c41
             try clear c41b0
             try clear c42
             try clear c49
             try clear c55
             try clear c58
             try clear c58b0
             try clear c58b1
             try clear p64
             try clear c75
             try clear c76
             try clear c76b0
             try clear c76b1
             try clear c77
             try clear c77b0
             try clear c77b1
             try clear c78
             try clear c78b0
             try clear c78b1
             try clear c79
             try clear c79b0
             try clear c79b1
             try clear c80
             try clear c80b0
             try clear c80b1
             try clear c81
             try clear c81b0
             try clear c81b1
             try clear c82
             try clear c82b0
             try clear c82b1
             try clear c83
             try clear c83b0
             try clear c83b1
             try clear c84
             try clear c87
             try clear c90
             try clear c90b0
             try clear c90b1
             try clear c91
             try clear c91b0
             try clear c91b1
             try clear c92
             try clear c92b0
             try clear c92b1
             try clear c93
             try clear c96
             try clear c99
             try clear c99b0
             try clear c99b1
             try clear c100
             try clear c100b0
             try clear c100b1
             try clear c101
             try clear c101b0
             try clear c101b1
             try clear c102
             try clear c102b0
             try clear c102b1
             try clear c103
             try clear c103b0
             try clear c103b1
             try clear c104
             try clear c107
             try clear c110
             try clear c110b0
             try clear c110b1
             try clear c111
             try clear c111b0
             try clear c111b1
             try clear c112
             try clear c112b0
             try clear c112b1
             try clear c113
             try clear c116
             try clear c118
             try clear c118b0
             try clear c118b1
             try clear hcz105_0
             try clear hcz105_1
             try clear hcz105_2
             try clear hcz105_3
             try clear hcz105_4
             try clear hcz105_5
             try clear hcz105_6
             try clear hcz105_7
             try clear hcz105_8
             try clear hcz105_9
             try clear hcz106_0
             try clear hcz106_1
             try clear hcz108_0
             try clear hcz108_1
             try clear hcz108_2
             try clear hcz108_3
             try clear hcz108_4
             try clear hcz108_5
             try clear hcz108_6
             try clear hcz108_7
             try clear hcz108_8
             try clear hcz108_9
             try clear hcz109_0
             try clear hcz109_1
             try clear hcz114_0
             try clear hcz114_1
             try clear hcz114_2
             try clear hcz114_3
             try clear hcz114_4
             try clear hcz114_5
             try clear hcz114_6
             try clear hcz114_7
             try clear hcz114_8
             try clear hcz114_9
             try clear hcz115_0
             try clear hcz115_1
             try clear hcz117_0
             try clear hcz117_1
             try clear hcz117_2
             try clear hcz117_3
             try clear hcz117_4
             try clear hcz117_5
             try clear hcz117_6
             try clear hcz117_7
             try clear hcz117_8
             try clear hcz117_9
             try clear hcz120_0
             try clear hcz120_1
             try clear hcz120_2
             try clear hcz120_3
             try clear hcz120_4
             try clear hcz120_5
             try clear hcz120_6
             try clear hcz120_7
             try clear hcz120_8
             try clear hcz120_9
             try clear hcz85_0
             try clear hcz85_1
             try clear hcz85_2
             try clear hcz85_3
             try clear hcz85_4
             try clear hcz85_5
             try clear hcz85_6
             try clear hcz85_7
             try clear hcz85_8
             try clear hcz85_9
             try clear hcz86_0
             try clear hcz86_1
             try clear hcz88_0
             try clear hcz88_1
             try clear hcz88_2
             try clear hcz88_3
             try clear hcz88_4
             try clear hcz88_5
             try clear hcz88_6
             try clear hcz88_7
             try clear hcz88_8
             try clear hcz88_9
             try clear hcz89_0
             try clear hcz89_1
             try clear hcz94_0
             try clear hcz94_1
             try clear hcz94_2
             try clear hcz94_3
             try clear hcz94_4
             try clear hcz94_5
             try clear hcz94_6
             try clear hcz94_7
             try clear hcz94_8
             try clear hcz94_9
             try clear hcz95_0
             try clear hcz95_1
             try clear hcz97_0
             try clear hcz97_1
             try clear hcz97_2
             try clear hcz97_3
             try clear hcz97_4
             try clear hcz97_5
             try clear hcz97_6
             try clear hcz97_7
             try clear hcz97_8
             try clear hcz97_9
             try clear hcz98_0
             try clear hcz98_1
             try clear hfz105_0
             try clear hfz105_1
             try clear hfz105_2
             try clear hfz105_3
             try clear hfz105_4
             try clear hfz105_5
             try clear hfz105_6
             try clear hfz105_7
             try clear hfz105_8
             try clear hfz105_9
             try clear hfz106_0
             try clear hfz106_1
             try clear hfz108_0
             try clear hfz108_1
             try clear hfz108_2
             try clear hfz108_3
             try clear hfz108_4
             try clear hfz108_5
             try clear hfz108_6
             try clear hfz108_7
             try clear hfz108_8
             try clear hfz108_9
             try clear hfz109_0
             try clear hfz109_1
             try clear hfz114_0
             try clear hfz114_1
             try clear hfz114_2
             try clear hfz114_3
             try clear hfz114_4
             try clear hfz114_5
             try clear hfz114_6
             try clear hfz114_7
             try clear hfz114_8
             try clear hfz114_9
             try clear hfz115_0
             try clear hfz115_1
             try clear hfz117_0
             try clear hfz117_1
             try clear hfz117_2
             try clear hfz117_3
             try clear hfz117_4
             try clear hfz117_5
             try clear hfz117_6
             try clear hfz117_7
             try clear hfz117_8
             try clear hfz117_9
             try clear hfz120_0
             try clear hfz120_1
             try clear hfz120_2
             try clear hfz120_3
             try clear hfz120_4
             try clear hfz120_5
             try clear hfz120_6
             try clear hfz120_7
             try clear hfz120_8
             try clear hfz120_9
             try clear hfz85_0
             try clear hfz85_1
             try clear hfz85_2
             try clear hfz85_3
             try clear hfz85_4
             try clear hfz85_5
             try clear hfz85_6
             try clear hfz85_7
             try clear hfz85_8
             try clear hfz85_9
             try clear hfz86_0
             try clear hfz86_1
             try clear hfz88_0
             try clear hfz88_1
             try clear hfz88_2
             try clear hfz88_3
             try clear hfz88_4
             try clear hfz88_5
             try clear hfz88_6
             try clear hfz88_7
             try clear hfz88_8
             try clear hfz88_9
             try clear hfz89_0
             try clear hfz89_1
             try clear hfz94_0
             try clear hfz94_1
             try clear hfz94_2
             try clear hfz94_3
             try clear hfz94_4
             try clear hfz94_5
             try clear hfz94_6
             try clear hfz94_7
             try clear hfz94_8
             try clear hfz94_9
             try clear hfz95_0
             try clear hfz95_1
             try clear hfz97_0
             try clear hfz97_1
             try clear hfz97_2
             try clear hfz97_3
             try clear hfz97_4
             try clear hfz97_5
             try clear hfz97_6
             try clear hfz97_7
             try clear hfz97_8
             try clear hfz97_9
             try clear hfz98_0
             try clear hfz98_1
             try clear p2
             try clear p6
             try clear p64
             obtain ⟨x8_4, x9_4, rfl, rfl, HA, HK4, HO_5, BK255, HB⟩ := hrel
             cases gk with
             | zero => exact absurd HA.out (by simp [laws_FnWinOf.l1])
             | succ k4 =>
              have H := HA.out
              clear HA
              simp only [laws_FnWinOf.l1] at H
              by_cases c121 : x9_4 ≤ t254
              ·rw [if_pos c121] at H
               have c121b0 : decide (x9_4 ≤ t254) = true := decide_eq_true c121
               clear c121
               by_cases c122 : t254 < (wrap64 (x9_4 + t247))
               ·rw [if_pos c122] at H
                have c122b0 : decide (t254 < (wrap64 (x9_4 + t247))) = true := decide_eq_true c122
                clear c122
                have H' := Aside0.mk H
                clear H
                have hcz123_0 : wr.cell? ⟨gb255, 0, none⟩ = some (.int .i64 t244) := (blk_cell BK255.out 0).trans rfl
                have hcz123_1 : wr.cell? ⟨gb255, 1, none⟩ = some (.int .i64 t245) := (blk_cell BK255.out 1).trans rfl
                have hcz123_2 : wr.cell? ⟨gb255, 2, none⟩ = some (.int .i64 t246) := (blk_cell BK255.out 2).trans rfl
                have hcz123_3 : wr.cell? ⟨gb255, 3, none⟩ = some (.int .i64 t247) := (blk_cell BK255.out 3).trans rfl
                have hcz123_4 : wr.cell? ⟨gb255, 4, none⟩ = some (.int .i64 t248) := (blk_cell BK255.out 4).trans rfl
                have hcz123_5 : wr.cell? ⟨gb255, 5, none⟩ = some (.int .i64 t249) := (blk_cell BK255.out 5).trans rfl
                have hcz123_6 : wr.cell? ⟨gb255, 6, none⟩ = some (.int .i64 t250) := (blk_cell BK255.out 6).trans rfl
                have hcz123_7 : wr.cell? ⟨gb255, 7, none⟩ = some (.bool t251) := (blk_cell BK255.out 7).trans rfl
                have hcz123_8 : wr.cell? ⟨gb255, 8, none⟩ = some (.int .i64 t252) := (blk_cell BK255.out 8).trans rfl
                have hcz123_9 : wr.cell? ⟨gb255, 9, none⟩ = some (.int .i64 t253) := (blk_cell BK255.out 9).trans rfl
                have hfz123_0 := blk_frozen BK255.out 0
                have hfz123_1 := blk_frozen BK255.out 1
                have hfz123_2 := blk_frozen BK255.out 2
                have hfz123_3 := blk_frozen BK255.out 3
                have hfz123_4 := blk_frozen BK255.out 4
                have hfz123_5 := blk_frozen BK255.out 5
                have hfz123_6 := blk_frozen BK255.out 6
                have hfz123_7 := blk_frozen BK255.out 7
                have hfz123_8 := blk_frozen BK255.out 8
                have hfz123_9 := blk_frozen BK255.out 9
                go_wp2
                go_roundg k4
                case measure => have := HJ4.out; have := HJ25.out; have := HK3.out; have := HK4.out; omega
                case rel => exact ⟨(wrap64 (x8_4 + 1)), (wrap64 (x9_4 + t248)), (by first | rfl | (simp; done) | (simp [*]; done)), (by first | rfl | (simp; done) | (simp [*]; done)), H', ⟨by have := HJ4.out; have := HJ25.out; have := HK3.out; have := HK4.out; omega⟩, ⟨by (with_reducible repeat (first | apply Kd.R_alloc | apply Kd.R_drewN | apply Kd.R_drew)); exact HO_5.out⟩, ⟨by (with_reducible repeat (first | refine blk_drewN ?_ _ | refine blk_drew ?_ | refine blk_alloc ?_ _)); exact BK255.out⟩, ⟨by repeat (first | (with_reducible first | exact HB.out | apply below_alloc | apply pw_below_drewN | apply below_drew1 | refine below_set ?_ GE255.out) | exact HB.out)⟩⟩
               ·rw [if_neg c122] at H
                have c122b0 : decide (t254 < (wrap64 (x9_4 + t247))) = false := decide_eq_false c122
                clear c122
                have H' := Aside0.mk H
                clear H
                have hcz124_0 : wr.cell? ⟨gb255, 0, none⟩ = some (.int .i64 t244) := (blk_cell BK255.out 0).trans rfl
                have hcz124_1 : wr.cell? ⟨gb255, 1, none⟩ = some (.int .i64 t245) := (blk_cell BK255.out 1).trans rfl
                have hcz124_2 : wr.cell? ⟨gb255, 2, none⟩ = some (.int .i64 t246) := (blk_cell BK255.out 2).trans rfl
                have hcz124_3 : wr.cell? ⟨gb255, 3, none⟩ = some (.int .i64 t247) := (blk_cell BK255.out 3).trans rfl
                have hcz124_4 : wr.cell? ⟨gb255, 4, none⟩ = some (.int .i64 t248) := (blk_cell BK255.out 4).trans rfl
                have hcz124_5 : wr.cell? ⟨gb255, 5, none⟩ = some (.int .i64 t249) := (blk_cell BK255.out 5).trans rfl
                have hcz124_6 : wr.cell? ⟨gb255, 6, none⟩ = some (.int .i64 t250) := (blk_cell BK255.out 6).trans rfl
                have hcz124_7 : wr.cell? ⟨gb255, 7, none⟩ = some (.bool t251) := (blk_cell BK255.out 7).trans rfl
                have hcz124_8 : wr.cell? ⟨gb255, 8, none⟩ = some (.int .i64 t252) := (blk_cell BK255.out 8).trans rfl
                have hcz124_9 : wr.cell? ⟨gb255, 9, none⟩ = some (.int .i64 t253) := (blk_cell BK255.out 9).trans rfl
                have hfz124_0 := blk_frozen BK255.out 0
                have hfz124_1 := blk_frozen BK255.out 1
                have hfz124_2 := blk_frozen BK255.out 2
                have hfz124_3 := blk_frozen BK255.out 3
                have hfz124_4 := blk_frozen BK255.out 4
                have hfz124_5 := blk_frozen BK255.out 5
                have hfz124_6 := blk_frozen BK255.out 6
                have hfz124_7 := blk_frozen BK255.out 7
                have hfz124_8 := blk_frozen BK255.out 8
                have hfz124_9 := blk_frozen BK255.out 9
                go_wp2
                go_roundg k4
                case measure => have := HJ4.out; have := HJ25.out; have := HK3.out; have := HK4.out; omega
                case rel => exact ⟨(x8_4), (wrap64 (x9_4 + t248)), (by first | rfl | (simp; done) | (simp [*]; done)), (by first | rfl | (simp; done) | (simp [*]; done)), H', ⟨by have := HJ4.out; have := HJ25.out; have := HK3.out; have := HK4.out; omega⟩, ⟨by (with_reducible repeat (first | apply Kd.R_alloc | apply Kd.R_drewN | apply Kd.R_drew)); exact HO_5.out⟩, ⟨by (with_reducible repeat (first | refine blk_drewN ?_ _ | refine blk_drew ?_ | refine blk_alloc ?_ _)); exact BK255.out⟩, ⟨by repeat (first | (with_reducible first | exact HB.out | apply below_alloc | apply pw_below_drewN | apply below_drew1 | refine below_set ?_ GE255.out) | exact HB.out)⟩⟩
              ·rw [if_neg c121] at H
               have c121b0 : decide (x9_4 ≤ t254) = false := decide_eq_false c121
               clear c121
               by_cases c125 : (t256.length : Int) = x8_4
               ·rw [if_pos c125] at H
                have c125b0 : ((t256.length : Int) == x8_4) = true := beq_iff_eq.mpr c125
                have c125b1 : ((t256.length : Int) != x8_4) = false := bne_eq_false_iff_eq.mpr c125
                clear c125
                by_cases c126 : x8_4 ≥ 1
                ·rw [if_pos c126] at H
                 have c126b0 : decide (1 ≤ x8_4) = true := decide_eq_true c126
                 clear c126
                 have hrt_ := Aside0.mk (Option.some.inj H)
                 clear H
                 go_wp2
                 go_ret
                 exact ⟨by first | rfl | (refine congrArg (fun b_ => Ending.returned (Value.bool b_)) ?_; first | exact hrt_.out | simpa using hrt_.out | (have hq_ := hrt_.out; simp at hq_ ⊢; omega)) | (simp [errW_none, errW_some] <;> rfl) | (simp [*, errW_none, errW_some] <;> rfl), by repeat (first | (with_reducible first | exact HB.out | apply below_alloc | apply pw_below_drewN | apply below_drew1 | refine below_set ?_ GE255.out) | exact HB.out)⟩
                ·rw [if_neg c126] at H
                 have c126b0 : decide (1 ≤ x8_4) = false := decide_eq_false c126
                 clear c126
                 exact absurd H (by simp)
               ·rw [if_neg c125] at H
                have c125b0 : ((t256.length : Int) == x8_4) = false := beq_eq_false_iff_ne.mpr c125
                have c125b1 : ((t256.length : Int) != x8_4) = true := bne_iff_ne.mpr c125
                exact absurd H (by simp)
           ·rw [if_neg c118] at H
            have c118b0 : (t246 == 2) = false := beq_eq_false_iff_ne.mpr c118
            have c118b1 : (t246 != 2) = true := bne_iff_ne.mpr c118
            by_cases c127 : (t256.length : Int) = 1
            ·rw [if_pos c127] at H
             have c127b0 : ((t256.length : Int) == 1) = true := beq_iff_eq.mpr c127
             have c127b1 : ((t256.length : Int) != 1) = false := bne_eq_false_iff_eq.mpr c127
             clear c127
             by_cases c128 : 1 ≥ 1
             ·rw [if_pos c128] at H
              have c128b0 : decide (1 ≤ 1) = true := decide_eq_true c128
              clear c128
              have hrt_ := Aside0.mk (Option.some.inj H)
              clear H
              obtain ⟨Ao129, co129, eo129⟩ := Kd.R_slice HO_5.out
              subst eo129
              have hcz130_0 : wr.cell? ⟨gb255, 0, none⟩ = some (.int .i64 t244) := (blk_cell BK255.out 0).trans rfl
              have hcz130_1 : wr.cell? ⟨gb255, 1, none⟩ = some (.int .i64 t245) := (blk_cell BK255.out 1).trans rfl
              have hcz130_2 : wr.cell? ⟨gb255, 2, none⟩ = some (.int .i64 t246) := (blk_cell BK255.out 2).trans rfl
              have hcz130_3 : wr.cell? ⟨gb255, 3, none⟩ = some (.int .i64 t247) := (blk_cell BK255.out 3).trans rfl
              have hcz130_4 : wr.cell? ⟨gb255, 4, none⟩ = some (.int .i64 t248) := (blk_cell BK255.out 4).trans rfl
              have hcz130_5 : wr.cell? ⟨gb255, 5, none⟩ = some (.int .i64 t249) := (blk_cell BK255.out 5).trans rfl
              have hcz130_6 : wr.cell? ⟨gb255, 6, none⟩ = some (.int .i64 t250) := (blk_cell BK255.out 6).trans rfl
              have hcz130_7 : wr.cell? ⟨gb255, 7, none⟩ = some (.bool t251) := (blk_cell BK255.out 7).trans rfl
              have hcz130_8 : wr.cell? ⟨gb255, 8, none⟩ = some (.int .i64 t252) := (blk_cell BK255.out 8).trans rfl
              have hcz130_9 : wr.cell? ⟨gb255, 9, none⟩ = some (.int .i64 t253) := (blk_cell BK255.out 9).trans rfl
              have hfz130_0 := blk_frozen BK255.out 0
              have hfz130_1 := blk_frozen BK255.out 1
              have hfz130_2 := blk_frozen BK255.out 2
              have hfz130_3 := blk_frozen BK255.out 3
              have hfz130_4 := blk_frozen BK255.out 4
              have hfz130_5 := blk_frozen BK255.out 5
              have hfz130_6 := blk_frozen BK255.out 6
              have hfz130_7 := blk_frozen BK255.out 7
              have hfz130_8 := blk_frozen BK255.out 8
              have hfz130_9 := blk_frozen BK255.out 9
              go_wp2
              go_ret
              exact ⟨by first | rfl | (refine congrArg (fun b_ => Ending.returned (Value.bool b_)) ?_; first | exact hrt_.out | simpa using hrt_.out | (have hq_ := hrt_.out; simp at hq_ ⊢; omega)) | (simp [errW_none, errW_some] <;> rfl) | (simp [*, errW_none, errW_some] <;> rfl), by repeat (first | (with_reducible first | exact HB.out | apply below_alloc | apply pw_below_drewN | apply below_drew1 | refine below_set ?_ GE255.out) | exact HB.out)⟩
             ·rw [if_neg c128] at H
              exact absurd (by decide) c128
            ·rw [if_neg c127] at H
             have c127b0 : ((t256.length : Int) == 1) = false := beq_eq_false_iff_ne.mpr c127
             have c127b1 : ((t256.length : Int) != 1) = true := bne_iff_ne.mpr c127
             exact absurd H (by simp)

/-- THE ONE PURE STATEMENT of laws_FnWinOf: yours. -/
def laws_FnWinOf.Pure : Prop := ∀ (l0 : List Int), l0.length ≤ maxLen → l0.length * 1 ≤ 140737488351232 → (∀ x ∈ l0, (Lit.int .u8 x).wf = true) → ∃ k, laws_FnWinOf.f k l0 = some true
theorem laws_FnWinOf.walk (P : laws_FnWinOf.Pure) (a0 : Option Addr) (len0 cap0 : Nat) (z0 : List Int) (w : World) (w0 : (a0 = none ∧ len0 = 0 ∧ cap0 = 0 ∧ z0 = []) ∨ ∃ x, a0 = some x ∧ len0 ≤ cap0 ∧ cap0 ≤ maxLen ∧ z0.length = cap0 ∧ (∀ i, i < z0.length → w.cell? (x.add i) = some (.int .u8 (z0.getD i 0))) ∧ ∀ n ∈ z0, (Lit.int .u8 n).wf = true) (y0 : len0 * 1 ≤ 140737488351232) :
  Calls Try.prog 12 #[.slice a0 len0 cap0] w fun e w' => e = .returned (.bool true) ∧ Below w.heap.size w w' := by
 obtain ⟨l0, rfl, hr0, hm0, hw0, hc0⟩ := ReadsInt.ofRowC w0
 obtain ⟨k, h⟩ := P l0 hm0 y0 hw0
 refine (laws_FnWinOf.calls k _ _ l0 w (Kd.C_of_reads (d := (0 : Int)) (h1 := fun _ => rfl) hr0) hc0 h).mono ?_
 rintro e w' ⟨rfl, hd⟩
 exact ⟨rfl, hd⟩

end Go.Proofs.Ytkmckalckafloaa.PFnWinOf
-- thin
