/- Functions of the program as Lean functions, with their contracts, written by a program of mine over the kit's printer and in part by hand. No condition of its own. -/
import Derived.Test.YtgmkfhgebinfgaaDoorQFnExactJobParsex0
import Derived.Test.YtgmkfhgebinfgaaDoorQFnExactJobParsex1
import Derived.Test.YtgmkfhgebinfgaaDoorQFnExactJobParsex2
namespace Go.Proofs.YtgmkfhgebinfgaaDoor.PFnExactJobParse
open Go.RowKit Go.Proofs.YtgmkfhgebinfgaaDoorW.PrintWords Go.Proofs.YtgmkfhgebinfgaaDoorW.PrintLast Go.Proofs.YtgmkfhgebinfgaaDoorW.PrintMore
attribute [local go_sem] max2_int min2_int max_two min_two max_three min_three max_four min_four   -- for this text's walks alone
set_option linter.unusedVariables false
set_option linter.unusedSimpArgs false

/-! ### spec_JobParse: function 5 -/
mutual
def spec_JobParse.l0 : Nat → List ByteArray → List Int → Int → Option (Int × Int × Int × Int × Int × Int × Int × Bool × Int × Int × Int)
  | 0, _, _, _ => none
  | k + 1, x0, x4, x5 => if x5 < (x0.length : Int) then (if 0 ≤ x5 then ((spec_l1Words.f k (rdOf ByteArray.empty x0 x5)).bind fun t133 => ((spec_l4Names.f).bind fun t136 => (if x5 < (t136.length : Int) then (if (t133.length : Int) = 2 then (if 0 < (t133.length : Int) then ((spec_l4Names.f).bind fun t140 => (if x5 < (t140.length : Int) then (spec_JobParse.j1 k x0 x4 x5 t133 ((rdOf ByteArray.empty t133 0).toList == (rdOf ByteArray.empty t140 x5).toList)) else (none))) else (none)) else (spec_JobParse.j1 k x0 x4 x5 t133 false)) else (spec_JobParse.j1 k x0 x4 x5 t133 false)))) else (none)) else ((spec_l4Names.f).bind fun t151 => (if (x4.length : Int) < (t151.length : Int) then (some (0, 0, 0, 0, 0, 0, 0, false, 0, 0, wrap64 ((x0.length : Int) + 1))) else (if 0 < (x4.length : Int) then (if 1 < (x4.length : Int) then (if 2 < (x4.length : Int) then (if 3 < (x4.length : Int) then (if 4 < (x4.length : Int) then (if 5 < (x4.length : Int) then (if 6 < (x4.length : Int) then (if 7 < (x4.length : Int) then (if 8 < (x4.length : Int) then (if 9 < (x4.length : Int) then ((spec_JobOk.f k (rd x4 0) (rd x4 1) (rd x4 2) (rd x4 3) (rd x4 4) (rd x4 5) (rd x4 6) ((rd x4 7) == 1) (rd x4 8) (rd x4 9)).bind fun t165 => (if t165 = true then (some (rd x4 0, rd x4 1, rd x4 2, rd x4 3, rd x4 4, rd x4 5, rd x4 6, ((rd x4 7) == 1), rd x4 8, rd x4 9, 0)) else (some (0, 0, 0, 0, 0, 0, 0, false, 0, 0, wrap64 ((x0.length : Int) + 1))))) else (none)) else (none)) else (none)) else (none)) else (none)) else (none)) else (none)) else (none)) else (none)) else (none))))
def spec_JobParse.j1 : Nat → List ByteArray → List Int → Int → List ByteArray → Bool → Option (Int × Int × Int × Int × Int × Int × Int × Bool × Int × Int × Int)
  | 0, _, _, _, _, _ => none
  | k + 1, x0, x4, x5, x6, x7 => if x7 = true then (if 1 < (x6.length : Int) then ((spec_l1Number.f k (rdOf ByteArray.empty x6 1)).bind fun bt145 => (if x4.length < 17592186044416 then ((some (x4 ++ [bt145.1] : List Int)).bind fun y147 => (if bt145.2 = true then (if x5 = 7 then ((spec_l1In.f bt145.1 0 1).bind fun t150 => (if t150 = true then (spec_JobParse.l0 k x0 y147 (wrap64 (x5 + 1))) else (some (0, 0, 0, 0, 0, 0, 0, false, 0, 0, wrap64 (x5 + 1))))) else (spec_JobParse.l0 k x0 y147 (wrap64 (x5 + 1)))) else (some (0, 0, 0, 0, 0, 0, 0, false, 0, 0, wrap64 (x5 + 1))))) else (none))) else (none)) else (some (0, 0, 0, 0, 0, 0, 0, false, 0, 0, wrap64 (x5 + 1)))
end
def spec_JobParse.f (k : Nat) (l0 : List ByteArray) : Option (Int × Int × Int × Int × Int × Int × Int × Bool × Int × Int × Int) := spec_JobParse.l0 k l0 (([] : List Int)) 0
theorem spec_JobParse.mono_l : ∀ k, (∀ y0 y1 y2, LeO (spec_JobParse.l0 k y0 y1 y2) (spec_JobParse.l0 (k + 1) y0 y1 y2)) ∧ (∀ y0 y1 y2 y3 y4, LeO (spec_JobParse.j1 k y0 y1 y2 y3 y4) (spec_JobParse.j1 (k + 1) y0 y1 y2 y3 y4))
  | 0 => ⟨fun _ _ _ r h => by simp [spec_JobParse.l0] at h, fun _ _ _ _ _ r h => by simp [spec_JobParse.j1] at h⟩
  | k + 1 => by
    obtain ⟨ih0, ih1⟩ := spec_JobParse.mono_l k
    refine ⟨?_, ?_⟩
    · intro y0 y1 y2
      unfold spec_JobParse.l0
      repeat' first
      | (with_reducible exact ih0 _ _ _)
      | (with_reducible exact ih1 _ _ _ _ _)
      | (with_reducible exact spec_JobOk.mono _ _ _ _ _ _ _ _ _ _ _)
      | (with_reducible exact spec_l1Number.mono _ _)
      | (with_reducible exact spec_l1Words.mono _ _)
      | (with_reducible exact LeO.refl _)
      | (with_reducible exact LeO.none _)
      | (with_reducible refine LeO.ite ?_ ?_)
      | (with_reducible refine LeO.bind ?_ (fun _ => ?_))
      | exact ih0 _ _ _
      | exact ih1 _ _ _ _ _
      | exact spec_JobOk.mono _ _ _ _ _ _ _ _ _ _ _
      | exact spec_l1Number.mono _ _
      | exact spec_l1Words.mono _ _
      | exact LeO.none _
      | refine LeO.ite ?_ ?_
      | refine LeO.bind ?_ (fun _ => ?_)
    · intro y0 y1 y2 y3 y4
      unfold spec_JobParse.j1
      repeat' first
      | (with_reducible exact ih0 _ _ _)
      | (with_reducible exact ih1 _ _ _ _ _)
      | (with_reducible exact spec_JobOk.mono _ _ _ _ _ _ _ _ _ _ _)
      | (with_reducible exact spec_l1Number.mono _ _)
      | (with_reducible exact spec_l1Words.mono _ _)
      | (with_reducible exact LeO.refl _)
      | (with_reducible exact LeO.none _)
      | (with_reducible refine LeO.ite ?_ ?_)
      | (with_reducible refine LeO.bind ?_ (fun _ => ?_))
      | exact ih0 _ _ _
      | exact ih1 _ _ _ _ _
      | exact spec_JobOk.mono _ _ _ _ _ _ _ _ _ _ _
      | exact spec_l1Number.mono _ _
      | exact spec_l1Words.mono _ _
      | exact LeO.none _
      | refine LeO.ite ?_ ?_
      | refine LeO.bind ?_ (fun _ => ?_)
theorem spec_JobParse.mono : ∀ a0 k, LeO (spec_JobParse.f k a0) (spec_JobParse.f (k + 1) a0) := by
  intro a0 k
  obtain ⟨ih0, ih1⟩ := spec_JobParse.mono_l k
  unfold spec_JobParse.f
  repeat' first
      | (with_reducible exact ih0 _ _ _)
      | (with_reducible exact ih1 _ _ _ _ _)
      | (with_reducible exact spec_JobOk.mono _ _ _ _ _ _ _ _ _ _ _)
      | (with_reducible exact spec_l1Number.mono _ _)
      | (with_reducible exact spec_l1Words.mono _ _)
      | (with_reducible exact LeO.refl _)
      | (with_reducible exact LeO.none _)
      | (with_reducible refine LeO.ite ?_ ?_)
      | (with_reducible refine LeO.bind ?_ (fun _ => ?_))
      | exact ih0 _ _ _
      | exact ih1 _ _ _ _ _
      | exact spec_JobOk.mono _ _ _ _ _ _ _ _ _ _ _
      | exact spec_l1Number.mono _ _
      | exact spec_l1Words.mono _ _
      | exact LeO.none _
      | refine LeO.ite ?_ ?_
      | refine LeO.bind ?_ (fun _ => ?_)
def spec_JobParse.T6 : Bool × List (List Nat × List Nat) := (true, [([], []), ([], []), ([1], [1]), ([0, 2], [0, 2]), ([3, 1], [3]), ([4], [4]), ([5, 4], [4, 5]), ([6, 4], [4, 6]), ([4, 7], [4, 7]), ([8, 4], [8]), ([9], [9]), ([10, 9], [9, 10]), ([11, 9], [9, 11]), ([9, 9], [9]), ([9], [9]), ([13, 14, 9], [9, 13, 14]), ([15, 9], [9, 15]), ([12, 16, 9], [9, 12, 16]), ([9, 17], [9, 17]), ([18, 13, 0, 1, 2, 3, 4, 5, 6, 7, 8, 9, 10, 11, 12, 13, 14, 15, 16, 17, 18], [18])])
def spec_JobParse.B6 : List Nat := [0, 0, 2, 7, 15, 31, 63, 127, 255, 511, 1023, 2047, 4095, 1023, 1023, 25599, 58367, 131071, 262143, 524287]
theorem spec_JobParse.tab6 : rtab .any (opsOf Tryd.f5 6) = spec_JobParse.T6 := by kernel_rfl
theorem spec_JobParse.bits6 : waitsOk spec_JobParse.T6.2 spec_JobParse.B6 = true := by kernel_rfl
def spec_JobParse.T15 : Bool × List (List Nat × List Nat) := (true, [([], []), ([0], [0]), ([1], [1]), ([], []), ([3], [3]), ([4], [4]), ([], []), ([6], [6]), ([7], [7]), ([], []), ([9], [9]), ([10], [10]), ([], []), ([12], [12]), ([13], [13]), ([], []), ([15], [15]), ([16], [16]), ([], []), ([18], [18]), ([19], [19]), ([], []), ([21], [21]), ([22], [22]), ([23], [23]), ([], []), ([25], [25]), ([26], [26]), ([], []), ([28], [28]), ([29], [29]), ([2, 5, 8, 11, 14, 17, 20, 24, 27, 30], [2, 5, 8, 11, 14, 17, 20, 24, 27, 30]), ([], []), ([32, 31, 0, 1, 2, 3, 4, 5, 6, 7, 8, 9, 10, 11, 12, 13, 14, 15, 16, 17, 18, 19, 20, 21, 22, 23, 24, 25, 26, 27, 28, 29, 30, 31, 32], [31, 32])])
def spec_JobParse.B15 : List Nat := [0, 1, 3, 0, 8, 24, 0, 64, 192, 0, 512, 1536, 0, 4096, 12288, 0, 32768, 98304, 0, 262144, 786432, 0, 2097152, 6291456, 14680064, 0, 33554432, 100663296, 0, 268435456, 805306368, 2147483647, 0, 8589934591]
theorem spec_JobParse.tab15 : rtab .any (opsOf Tryd.f5 15) = spec_JobParse.T15 := by kernel_rfl
theorem spec_JobParse.bits15 : waitsOk spec_JobParse.T15.2 spec_JobParse.B15 = true := by kernel_rfl
/-- Ten stores, one behind the other: a struct of ten cells is written. -/
abbrev put10 (w : World) (g : Nat) (v0 v1 v2 v3 v4 v5 v6 v7 v8 v9 : Value) : World := (((((((((w.setCell ⟨g, 0, none⟩ v0).setCell ⟨g, 1, none⟩ v1).setCell ⟨g, 2, none⟩ v2).setCell ⟨g, 3, none⟩ v3).setCell ⟨g, 4, none⟩ v4).setCell ⟨g, 5, none⟩ v5).setCell ⟨g, 6, none⟩ v6).setCell ⟨g, 7, none⟩ v7).setCell ⟨g, 8, none⟩ v8).setCell ⟨g, 9, none⟩ v9
theorem put10_self {w : World} {g : Nat} {t : TypeId} {u0 u1 u2 u3 u4 u5 u6 u7 u8 u9 : Value} (h : w.heap[g]? = some (.cells #[u0, u1, u2, u3, u4, u5, u6, u7, u8, u9] t (0, 0))) (v0 v1 v2 v3 v4 v5 v6 v7 v8 v9 : Value) : (put10 w g v0 v1 v2 v3 v4 v5 v6 v7 v8 v9).heap[g]? = some (.cells #[v0, v1, v2, v3, v4, v5, v6, v7, v8, v9] t (0, 0)) := by
  have h0 := blk_put (cs' := #[v0, u1, u2, u3, u4, u5, u6, u7, u8, u9]) h 0 v0 rfl
  have h1 := blk_put (cs' := #[v0, v1, u2, u3, u4, u5, u6, u7, u8, u9]) h0 1 v1 rfl
  have h2 := blk_put (cs' := #[v0, v1, v2, u3, u4, u5, u6, u7, u8, u9]) h1 2 v2 rfl
  have h3 := blk_put (cs' := #[v0, v1, v2, v3, u4, u5, u6, u7, u8, u9]) h2 3 v3 rfl
  have h4 := blk_put (cs' := #[v0, v1, v2, v3, v4, u5, u6, u7, u8, u9]) h3 4 v4 rfl
  have h5 := blk_put (cs' := #[v0, v1, v2, v3, v4, v5, u6, u7, u8, u9]) h4 5 v5 rfl
  have h6 := blk_put (cs' := #[v0, v1, v2, v3, v4, v5, v6, u7, u8, u9]) h5 6 v6 rfl
  have h7 := blk_put (cs' := #[v0, v1, v2, v3, v4, v5, v6, v7, u8, u9]) h6 7 v7 rfl
  have h8 := blk_put (cs' := #[v0, v1, v2, v3, v4, v5, v6, v7, v8, u9]) h7 8 v8 rfl
  have h9 := blk_put (cs' := #[v0, v1, v2, v3, v4, v5, v6, v7, v8, v9]) h8 9 v9 rfl
  exact h9
theorem put10_far {w : World} {g k : Nat} {t : TypeId} {cs : Array Value} (h : w.heap[k]? = some (.cells cs t (0, 0))) (hk : k ≠ g) (v0 v1 v2 v3 v4 v5 v6 v7 v8 v9 : Value) : (put10 w g v0 v1 v2 v3 v4 v5 v6 v7 v8 v9).heap[k]? = some (.cells cs t (0, 0)) :=
  blk_far (blk_far (blk_far (blk_far (blk_far (blk_far (blk_far (blk_far (blk_far (blk_far h hk _) hk _) hk _) hk _) hk _) hk _) hk _) hk _) hk _) hk _
theorem put10_cell {w : World} {g : Nat} {a : Addr} (hk : a.block ≠ g) (v0 v1 v2 v3 v4 v5 v6 v7 v8 v9 : Value) : (put10 w g v0 v1 v2 v3 v4 v5 v6 v7 v8 v9).cell? a = w.cell? a := by
  have e : ∀ (W : World) (j : Nat) (u : Value), (W.setCell ⟨g, j, none⟩ u).cell? a = W.cell? a := fun W j u => cell_far (p := ⟨g, j, none⟩) hk u
  unfold put10
  rw [e, e, e, e, e, e, e, e, e, e]
theorem put10_below {w0 w : World} {g : Nat} (h : Below w0.heap.size w0 w) (hg : w0.heap.size ≤ g) (v0 v1 v2 v3 v4 v5 v6 v7 v8 v9 : Value) : Below w0.heap.size w0 (put10 w g v0 v1 v2 v3 v4 v5 v6 v7 v8 v9) :=
  below_set (below_set (below_set (below_set (below_set (below_set (below_set (below_set (below_set (below_set h hg) hg) hg) hg) hg) hg) hg) hg) hg) hg
set_option maxHeartbeats 8000000 in
set_option maxRecDepth 100000 in
theorem spec_JobParse.calls (k : Nat) (A0 : Option Addr) (c0 : Nat) (l0 : List ByteArray) (r1 : Int) (r2 : Int) (r3 : Int) (r4 : Int) (r5 : Int) (r6 : Int) (r7 : Int) (r8 : Bool) (r9 : Int) (r10 : Int) (r11 : Int) (w : World) (hr0 : Kd.C Kd.string w A0 l0.length l0) (hc0 : l0.length ≤ c0) (h : spec_JobParse.f k l0 = some (r1, r2, r3, r4, r5, r6, r7, r8, r9, r10, r11)) :
    Calls Tryd.prog 5 #[.slice A0 l0.length c0] w fun e w' => e = .returned (.tuple #[.agg #[.int .i64 r1, .int .i64 r2, .int .i64 r3, .int .i64 r4, .int .i64 r5, .int .i64 r6, .int .i64 r7, .bool r8, .int .i64 r9, .int .i64 r10], .int .i64 r11]) ∧ Below w.heap.size w w' := by
  have hu25 := Tryd.underlying25
  have HR0 := Aside0.mk hr0
  have HC0 := Aside0.mk hc0
  clear hr0 hc0
  have HB := Aside0.mk (Below.refl w.heap.size w)
  have H : (spec_JobParse.l0 k l0 (([] : List Int)) 0) = some (r1, r2, r3, r4, r5, r6, r7, r8, r9, r10, r11) := h
  clear h
  obtain ⟨y129, hy129⟩ : ∃ y_ : List Int, y_ = (([] : List Int)) := ⟨_, rfl⟩
  replace H : (spec_JobParse.l0 k l0 y129 0) = some (r1, r2, r3, r4, r5, r6, r7, r8, r9, r10, r11) := by first | (rw [hy129]; with_reducible exact H) | (have H2_ := (Option.bind_some _ _).symm.trans H; rw [hy129]; with_reducible exact H2_) | (have H2_ := (Option.bind_some _ _).symm.trans H; with_reducible exact H2_) | with_reducible exact H | (rw [hy129]; exact H) | exact H
  have Ny129 := Aside0.mk hy129
  clear hy129
  have H' := Aside0.mk H
  clear H
  go_enter Tryd.func5, Tryd.ntmps5
  go_wp2_with (first | ((with_reducible refine gate_dst (N := 2) rfl ?_); (try (refine gate_guard (by rfl) ?_; dsimp only)); refine box_event ?hg (N := 2) ?hd (cs := #[.int .i64 0, .int .i64 0, .int .i64 0, .int .i64 0, .int .i64 0, .int .i64 0, .int .i64 0, .bool false, .int .i64 0, .int .i64 0]) (t := 25) ?hr ?_; (case hd => rfl); (case hg => rfl); (case hr => first | (go_simp; done) | (go_simp; rfl)); intro gb128 hg w2 hbox hb; have n0_ := Aside0.mk (below_step (by repeat (first | (with_reducible first | exact HB.out | apply below_alloc | apply pw_below_drewN | apply below_drew1) | exact HB.out)) hb); have n1_ := Aside0.mk (hbox); have n2_ := Aside0.mk ((by rw [hg]; exact (below_size (by repeat (first | (with_reducible first | exact HB.out | apply below_alloc | apply pw_below_drewN | apply below_drew1) | exact HB.out))) : w.heap.size ≤ gb128)); have n3_ := Aside0.mk ((by rw [hg]; exact (below_size (by repeat (first | (with_reducible first | exact HB.out | apply below_alloc | apply pw_below_drewN | apply below_drew1) | exact HB.out))) : w.heap.size ≤ gb128)); clear HB; have HB := n0_; have BK128 := n1_; have GW128 := n2_; have GE128 := n3_; clear n0_ n1_ n2_ n3_; clear hb hbox hg) | ((with_reducible refine gate_dst (N := 11) rfl ?_); (try (refine gate_guard (by rfl) ?_; dsimp only)); refine Kd.R_lit (Kd.int .i64) _ 3 ?hg (N := 11) ?hd (xs := ([] : List Int)) (inner := []) (ok := fun _ => True) (okp := fun _ => True) ?hr ?hp (fun _ hk => hk) trivial (Below.refl _ _) (Nat.le_refl _) (by simp) ?_; (case hd => rfl); (case hg => rfl); (case hr => first | (go_simp; done) | (go_simp; rfl)); (case hp => exact (Reps.none _ _)); intro v130 w3 ho4 hb hg_ hnew_; clear hg_ hnew_; (first | rw [← Ny129.out] at ho4 | (simp only [Int.reduceToNat] at ho4; rw [← Ny129.out] at ho4)); have n0_ := Aside0.mk (Kd.R_lower ho4 (below_size (by repeat (first | (with_reducible first | exact HB.out | apply below_alloc | apply pw_below_drewN | apply below_drew1 | refine below_set ?_ GE128.out) | exact HB.out)))); have n1_ := Aside0.mk (blk_below (g := gb128) (o := .cells #[.int .i64 0, .int .i64 0, .int .i64 0, .int .i64 0, .int .i64 0, .int .i64 0, .int .i64 0, .bool false, .int .i64 0, .int .i64 0] 25 (0, 0)) (by (with_reducible repeat (first | refine blk_drewN ?_ _ | refine blk_drew ?_ | refine blk_alloc ?_ _)); exact BK128.out) hb); have n2_ := Aside0.mk (below_step (by repeat (first | (with_reducible first | exact HB.out | apply below_alloc | apply pw_below_drewN | apply below_drew1 | refine below_set ?_ GE128.out) | exact HB.out)) hb); clear BK128; clear HB; have HO131 := n0_; have BK128 := n1_; have HB := n2_; clear n0_ n1_ n2_; clear hb ho4))
  go_loopg [4, 5] k (fun kq v4 v5 w' => ∃ (x4_1 : List Int) (x5_1 : Int) (x129000_1 : Int) (x129001_1 : Int) (x129002_1 : Int) (x129003_1 : Int) (x129004_1 : Int) (x129005_1 : Int) (x129006_1 : Int) (x129007_1 : Bool) (x129008_1 : Int) (x129009_1 : Int), v5 = .int .i64 x5_1 ∧ Aside0 (spec_JobParse.l0 kq l0 x4_1 x5_1 = some (r1, r2, r3, r4, r5, r6, r7, r8, r9, r10, r11)) ∧ Aside0 (kq ≤ k) ∧ Aside0 (Kd.R (Kd.int .i64) 3 w' w.heap.size (fun _ => True) v4 x4_1) ∧ Aside0 (w'.heap[gb128]? = some (.cells #[.int .i64 x129000_1, .int .i64 x129001_1, .int .i64 x129002_1, .int .i64 x129003_1, .int .i64 x129004_1, .int .i64 x129005_1, .int .i64 x129006_1, .bool x129007_1, .int .i64 x129008_1, .int .i64 x129009_1] 25 (0, 0))) ∧ Aside0 (Below w.heap.size w w'))
  case atStart => exact ⟨(y129), (0), (0), (0), (0), (0), (0), (0), (0), (false), (0), (0), (by first | rfl | (simp; done) | (simp [*]; done)), H', ⟨Nat.le_refl _⟩, ⟨by (with_reducible repeat (first | apply Kd.R_alloc | apply Kd.R_drewN | apply Kd.R_drew)); exact HO131.out⟩, ⟨by (with_reducible repeat (first | refine blk_drewN ?_ _ | refine blk_drew ?_ | refine blk_alloc ?_ _)); exact BK128.out⟩, ⟨by repeat (first | (with_reducible first | exact HB.out | apply below_alloc | apply pw_below_drewN | apply below_drew1 | refine below_set ?_ GE128.out) | exact HB.out)⟩⟩
  case round =>
    clear H'
    try clear p2
    obtain ⟨x4_1, x5_1, x129000_1, x129001_1, x129002_1, x129003_1, x129004_1, x129005_1, x129006_1, x129007_1, x129008_1, x129009_1, rfl, HA, HK1, HO_4, BK128, HB⟩ := hrel
    cases gk with
    | zero => exact absurd HA.out (by simp [spec_JobParse.l0])
    | succ k1 =>
      have H := HA.out
      clear HA
      simp only [spec_JobParse.l0] at H
      by_cases c5 : x5_1 < (l0.length : Int)
      · rw [if_pos c5] at H
        have c5b0 : decide (x5_1 < (l0.length : Int)) = true := decide_eq_true c5
        clear c5
        by_cases c6 : 0 ≤ x5_1
        · rw [if_pos c6] at H
          have c6b0 : decide (0 ≤ x5_1) = true := decide_eq_true c6
          clear c6
          replace H := Option.bind_eq_some_iff.mp H
          obtain ⟨t133, A70, H⟩ := H
          replace H : ((spec_l4Names.f).bind fun t136 => (if x5_1 < (t136.length : Int) then (if (t133.length : Int) = 2 then (if 0 < (t133.length : Int) then ((spec_l4Names.f).bind fun t140 => (if x5_1 < (t140.length : Int) then (spec_JobParse.j1 k1 l0 x4_1 x5_1 t133 ((rdOf ByteArray.empty t133 0).toList == (rdOf ByteArray.empty t140 x5_1).toList)) else (none))) else (none)) else (spec_JobParse.j1 k1 l0 x4_1 x5_1 t133 false)) else (spec_JobParse.j1 k1 l0 x4_1 x5_1 t133 false))) = some (r1, r2, r3, r4, r5, r6, r7, r8, r9, r10, r11) := H
          have A7 := Aside0.mk A70
          clear A70
          have HC8 := Aside0.mk H
          clear H
          have p132 : 0 ≤ (x5_1 : Int) := of_decide_eq_true (by first | (with_reducible assumption) | assumption)
          have q132 : x5_1 < (l0.length : Int) := of_decide_eq_true (by first | (with_reducible assumption) | assumption)
          obtain ⟨ad132, e132, hx132_0⟩ := Kd.at_string HR0.out x5_1 p132 q132
          cases e132
          replace hx132_0 := (HB.out.cell (World.block_lt_of_cell? w _ hx132_0)).trans hx132_0
          replace p132 := eq_true p132
          replace q132 := eq_true q132
          go_upto_region 6 with (first | ((with_reducible refine gate_callee (f := 10) rfl ?_); refine goesL_ (some 22) rfl rfl Tryd.func10 (by kernel_rfl) rfl #[.string (rdOf ByteArray.empty l0 x5_1)] rfl (by (try simp only [List.map_toArray, List.map_cons, List.map_nil]); first | done | rfl | (simp only [List.length_drop, List.length_take]; rfl)) ?_; (with_reducible refine (spec_l1Words.calls k1 (rdOf ByteArray.empty l0 x5_1) t133 _ A7.out).mono ?_); rintro e w9 ⟨v134, rfl, ho0, hb⟩; refine ⟨_, rfl, ?_⟩; have n0_ := Aside0.mk (Kd.R_below (by (with_reducible repeat (first | apply Kd.R_alloc | apply Kd.R_drewN | apply Kd.R_drew)); exact HO_4.out) hb); have n1_ := Aside0.mk (Kd.R_lower ho0 (below_size (by repeat (first | (with_reducible first | exact HB.out | apply below_alloc | apply pw_below_drewN | apply below_drew1 | refine below_set ?_ GE128.out) | exact HB.out)))); have n2_ := Aside0.mk (blk_below (g := gb128) (o := .cells #[.int .i64 x129000_1, .int .i64 x129001_1, .int .i64 x129002_1, .int .i64 x129003_1, .int .i64 x129004_1, .int .i64 x129005_1, .int .i64 x129006_1, .bool x129007_1, .int .i64 x129008_1, .int .i64 x129009_1] 25 (0, 0)) (by (with_reducible repeat (first | refine blk_drewN ?_ _ | refine blk_drew ?_ | refine blk_alloc ?_ _)); exact BK128.out) hb); have n3_ := Aside0.mk (below_step (by repeat (first | (with_reducible first | exact HB.out | apply below_alloc | apply pw_below_drewN | apply below_drew1 | refine below_set ?_ GE128.out) | exact HB.out)) hb); clear HO_4; clear BK128; clear HB; have HO_4 := n0_; have HO135 := n1_; have BK128 := n2_; have HB := n3_; clear n0_ n1_ n2_ n3_; (try clear hb); (try clear hb2); (try clear hk); (try clear hi); (try clear ho0)))
          (try simp only [Act.put, List.setIfInBounds_toArray, List.set_cons_zero, List.set_cons_succ])
          go_cut [7] (fun v7 wc => ∃ (kq : Nat) (x7_7 : Bool), v7 = .bool x7_7 ∧ Aside0 (spec_JobParse.j1 kq l0 x4_1 x5_1 t133 x7_7 = some (r1, r2, r3, r4, r5, r6, r7, r8, r9, r10, r11)) ∧ Aside0 (kq ≤ k1) ∧ Aside0 (Kd.R (Kd.int .i64) 3 wc w.heap.size (fun _ => True) u4 x4_1) ∧ Aside0 (Kd.R Kd.string 9 wc w.heap.size (fun _ => True) v134 t133) ∧ Aside0 (wc.heap[gb128]? = some (.cells #[.int .i64 x129000_1, .int .i64 x129001_1, .int .i64 x129002_1, .int .i64 x129003_1, .int .i64 x129004_1, .int .i64 x129005_1, .int .i64 x129006_1, .bool x129007_1, .int .i64 x129008_1, .int .i64 x129009_1] 25 (0, 0))) ∧ Aside0 (Below w.heap.size w wc))
          case first =>
            have H := HC8.out
            clear HC8
            replace H := Option.bind_eq_some_iff.mp H
            obtain ⟨t136, A100, H⟩ := H
            replace H : (if x5_1 < (t136.length : Int) then (if (t133.length : Int) = 2 then (if 0 < (t133.length : Int) then ((spec_l4Names.f).bind fun t140 => (if x5_1 < (t140.length : Int) then (spec_JobParse.j1 k1 l0 x4_1 x5_1 t133 ((rdOf ByteArray.empty t133 0).toList == (rdOf ByteArray.empty t140 x5_1).toList)) else (none))) else (none)) else (spec_JobParse.j1 k1 l0 x4_1 x5_1 t133 false)) else (spec_JobParse.j1 k1 l0 x4_1 x5_1 t133 false)) = some (r1, r2, r3, r4, r5, r6, r7, r8, r9, r10, r11) := H
            have A10 := Aside0.mk A100
            clear A100
            by_cases c11 : x5_1 < (t136.length : Int)
            · rw [if_pos c11] at H
              have c11b0 : decide (x5_1 < (t136.length : Int)) = true := decide_eq_true c11
              clear c11
              (first | rw [c11b0] | (simp only [i64_w, i32_w]; rw [c11b0]) | skip)
              by_cases c12 : (t133.length : Int) = 2
              · rw [if_pos c12] at H
                have c12b0 : ((t133.length : Int) == 2) = true := beq_iff_eq.mpr c12
                have c12b1 : ((t133.length : Int) != 2) = false := bne_eq_false_iff_eq.mpr c12
                clear c12
                by_cases c13 : 0 < (t133.length : Int)
                · rw [if_pos c13] at H
                  have c13b0 : decide (0 < (t133.length : Int)) = true := decide_eq_true c13
                  have c13b1 : decide (0 < t133.length) = true := decide_eq_true (by omega)
                  clear c13
                  replace H := Option.bind_eq_some_iff.mp H
                  obtain ⟨t140, A140, H⟩ := H
                  replace H : (if x5_1 < (t140.length : Int) then (spec_JobParse.j1 k1 l0 x4_1 x5_1 t133 ((rdOf ByteArray.empty t133 0).toList == (rdOf ByteArray.empty t140 x5_1).toList)) else (none)) = some (r1, r2, r3, r4, r5, r6, r7, r8, r9, r10, r11) := H
                  have A14 := Aside0.mk A140
                  clear A140
                  by_cases c15 : x5_1 < (t140.length : Int)
                  · rw [if_pos c15] at H
                    have c15b0 : decide (x5_1 < (t140.length : Int)) = true := decide_eq_true c15
                    clear c15
                    have H' := Aside0.mk H
                    clear H
                    try go_wp2
                    have n0_ := Aside0.mk (Kd.R_drew HO_4.out)
                    have n1_ := Aside0.mk (Kd.R_drew HO135.out)
                    have n2_ := Aside0.mk (blk_drew BK128.out)
                    have n3_ := Aside0.mk (below_drew1 HB.out)
                    clear HO_4
                    clear HO135
                    clear BK128
                    clear HB
                    have HO_4 := n0_
                    have HO135 := n1_
                    have BK128 := n2_
                    have HB := n3_
                    clear n0_ n1_ n2_ n3_
                    have p139 : 0 ≤ (0 : Int) := (by omega)
                    have q139 : 0 < (t133.length : Int) := of_decide_eq_true (by first | (with_reducible assumption) | assumption)
                    obtain ⟨Ao98_, co98_, eo98_⟩ := Kd.R_slice HO135.out
                    (first | subst eo98_ | (injection eo98_ with f1_ f2_ f3_; have f4_ := f1_.symm; have f5_ := f3_.symm; clear f1_ f2_ f3_; subst f4_; subst f5_))
                    obtain ⟨ad139, e139, hx139_0⟩ := Kd.at_string (Kd.R_reads' HO135.out).2.2 0 p139 q139
                    cases e139
                    have qi139 : (0 < t133.length) = True := eq_true (by omega)
                    (try rw [show ((0 : Int)).toNat = 0 from rfl] at hx139_0)
                    (try rw [Addr.add_zero'] at hx139_0)
                    replace p139 := eq_true p139
                    replace q139 := eq_true q139
                    refine start_ (n := 20) (S := fun w' => w'.cell? ad139 = some (.string (rdOf ByteArray.empty t133 0)) ∧ True) (ds := []) #[false, false, false, false, false, false, false, false, false, false, false, false, false, false, false, false, false, false, false, false] (by kernel_rfl) rfl rfl ⟨hx139_0, trivial⟩ (fun hHeld => ?_); refine with_tabW spec_JobParse.tab6 spec_JobParse.bits6 (fun HT_ HW_ => ?_)
                    generalize w9.drew = w16 at HO_4 HO135 BK128 HB hx139_0 hHeld ⊢
                    refine pure_ (i := 0) (N := some 23) (v := ?_) (a' := ?_) #[true, false, false, false, false, false, false, false, false, false, false, false, false, false, false, false, false, false, false, false] rfl rfl (any_of HT_.out (by kernel_rfl)) (fun _ _ _ h => h) (Or.inl ⟨by rfl, ?_⟩) ?_ ?_
                    rotate_left
                    · intro w'
                      go_simp
                      with_reducible rfl
                    rotate_left
                    · simp only [Act.put, List.setIfInBounds_toArray, List.set_cons_zero, List.set_cons_succ, i64_w, i32_w]
                      rfl
                    refine one_ (i := 1) (N := some 24) #[true, true, false, false, false, false, false, false, false, false, false, false, false, false, false, false, false, false, false, false] rfl rfl (one_of HT_.out (by kernel_rfl)) (by decide) (fun K hK => ?_)
                    refine goes_ Tryd.func11 (by kernel_rfl) rfl #[] (by rfl) rfl rfl (by (try simp only [List.map_toArray, List.map_cons, List.map_nil]); first | done | rfl | (simp only [List.length_drop, List.length_take]; rfl)) ?_
                    with_reducible refine (spec_l4Names.calls  t136 _ A10.out).mono ?_
                    rintro e w17 ⟨v137, rfl, ho0, hb⟩
                    have HS0_ := (hb.cell (World.block_lt_of_cell? _ _ (hHeld.1))).trans (hHeld.1)
                    have HS1_ : True := trivial
                    refine ⟨_, rfl, ?_⟩
                    have n0_ := Aside0.mk (Kd.R_below (by (with_reducible repeat (first | apply Kd.R_alloc | apply Kd.R_drewN | apply Kd.R_drew)); exact HO_4.out) hb)
                    have n1_ := Aside0.mk (Kd.R_elder' (by (with_reducible repeat (first | apply Kd.R_alloc | apply Kd.R_drewN | apply Kd.R_drew)); exact HO135.out) (Kd.R_base ho0) hb)
                    have n2_ := Aside0.mk (Kd.R_lower (Kd.R_new' ho0 (Kd.R_lt (by (with_reducible repeat (first | apply Kd.R_alloc | apply Kd.R_drewN | apply Kd.R_drew)); exact HO135.out))) (below_size (by repeat (first | (with_reducible first | exact HB.out | apply below_alloc | apply pw_below_drewN | apply below_drew1 | refine below_set ?_ GE128.out) | exact HB.out))))
                    have n3_ := Aside0.mk (blk_below (g := gb128) (o := .cells #[.int .i64 x129000_1, .int .i64 x129001_1, .int .i64 x129002_1, .int .i64 x129003_1, .int .i64 x129004_1, .int .i64 x129005_1, .int .i64 x129006_1, .bool x129007_1, .int .i64 x129008_1, .int .i64 x129009_1] 25 (0, 0)) (by (with_reducible repeat (first | refine blk_drewN ?_ _ | refine blk_drew ?_ | refine blk_alloc ?_ _)); exact BK128.out) hb)
                    have n4_ := Aside0.mk (below_step (by repeat (first | (with_reducible first | exact HB.out | apply below_alloc | apply pw_below_drewN | apply below_drew1 | refine below_set ?_ GE128.out) | exact HB.out)) hb)
                    clear HO_4
                    clear HO135
                    clear BK128
                    clear HB
                    have HO_4 := n0_
                    have HO135 := n1_
                    have HO138 := n2_
                    have BK128 := n3_
                    have HB := n4_
                    clear n0_ n1_ n2_ n3_ n4_
                    (try clear hb)
                    (try clear hb2)
                    (try clear hk)
                    (try clear hi)
                    (try clear ho0)
                    obtain ⟨Ao18, co18, eo18⟩ := Kd.R_slice HO138.out
                    (first | subst eo18 | (injection eo18 with f1_ f2_ f3_; have f4_ := f1_.symm; have f5_ := f3_.symm; clear f1_ f2_ f3_; subst f4_; subst f5_))
                    obtain ⟨Ao19, co19, eo19⟩ := Kd.R_slice HO135.out
                    (first | subst eo19 | (injection eo19 with f1_ f2_ f3_; have f4_ := f1_.symm; have f5_ := f3_.symm; clear f1_ f2_ f3_; subst f4_; subst f5_))
                    refine hK.out _ _ ⟨HS0_, HS1_⟩ (fun hHeld => ?_)
                    clear hK K
                    refine norm_ (a' := ?_) ?_ ?_
                    rotate_left
                    · show Act.put _ (some 24) _ = _
                      simp only [Act.put, List.setIfInBounds_toArray, List.set_cons_zero, List.set_cons_succ, i64_w, i32_w]
                      rfl
                    refine pure_ (i := 2) (N := some 25) (v := ?_) (a' := ?_) #[true, true, true, false, false, false, false, false, false, false, false, false, false, false, false, false, false, false, false, false] rfl rfl (any_of HT_.out (by kernel_rfl)) (fun _ _ _ h => h) (Or.inl ⟨by rfl, ?_⟩) ?_ ?_
                    rotate_left
                    · intro w'
                      go_simp
                      with_reducible rfl
                    rotate_left
                    · simp only [Act.put, List.setIfInBounds_toArray, List.set_cons_zero, List.set_cons_succ, i64_w, i32_w]
                      rfl
                    refine pure_ (i := 3) (N := some 26) (v := ?_) (a' := ?_) #[true, true, true, true, false, false, false, false, false, false, false, false, false, false, false, false, false, false, false, false] rfl rfl (any_of HT_.out (by kernel_rfl)) (fun _ _ _ h => h) (Or.inl ⟨by rfl, ?_⟩) ?_ ?_
                    rotate_left
                    · intro w'
                      go_simp
                      with_reducible rfl
                    rotate_left
                    · simp only [Act.put, List.setIfInBounds_toArray, List.set_cons_zero, List.set_cons_succ, i64_w, i32_w]
                      rfl
                    refine pure_ (i := 4) (N := some 27) (v := ?_) (a' := ?_) #[true, true, true, true, true, false, false, false, false, false, false, false, false, false, false, false, false, false, false, false] rfl rfl (any_of HT_.out (by kernel_rfl)) (fun _ _ _ h => h) (Or.inl ⟨by rfl, ?_⟩) ?_ ?_
                    rotate_left
                    · intro w'
                      go_simp
                      with_reducible rfl
                    rotate_left
                    · simp only [Act.put, List.setIfInBounds_toArray, List.set_cons_zero, List.set_cons_succ, i64_w, i32_w]
                      rfl
                    refine pure_ (i := 5) (N := some 28) (v := ?_) (a' := ?_) #[true, true, true, true, true, true, false, false, false, false, false, false, false, false, false, false, false, false, false, false] rfl rfl (any_of HT_.out (by kernel_rfl)) (fun _ _ _ h => h) (Or.inl ⟨by rfl, ?_⟩) ?_ ?_
                    rotate_left
                    · intro w'
                      go_simp
                      with_reducible rfl
                    rotate_left
                    · simp only [Act.put, List.setIfInBounds_toArray, List.set_cons_zero, List.set_cons_succ, i64_w, i32_w]
                      rfl
                    refine pure_ (i := 6) (N := some 29) (v := ?_) (a' := ?_) #[true, true, true, true, true, true, true, false, false, false, false, false, false, false, false, false, false, false, false, false] rfl rfl (any_of HT_.out (by kernel_rfl)) (fun _ _ _ h => h) (Or.inl ⟨by rfl, ?_⟩) ?_ ?_
                    rotate_left
                    · intro w'
                      go_simp
                      with_reducible rfl
                    rotate_left
                    · simp only [Act.put, List.setIfInBounds_toArray, List.set_cons_zero, List.set_cons_succ, i64_w, i32_w]
                      rfl
                    refine pure_ (i := 7) (N := some 30) (v := ?_) (a' := ?_) #[true, true, true, true, true, true, true, true, false, false, false, false, false, false, false, false, false, false, false, false] rfl rfl (any_of HT_.out (by kernel_rfl)) (fun _ _ _ h => h) (Or.inl ⟨by rfl, ?_⟩) ?_ ?_
                    rotate_left
                    · intro w'
                      go_simp
                      with_reducible rfl
                    rotate_left
                    · simp only [Act.put, List.setIfInBounds_toArray, List.set_cons_zero, List.set_cons_succ, i64_w, i32_w]
                      rfl
                    refine pure_ (i := 8) (N := some 31) (v := ?_) (a' := ?_) #[true, true, true, true, true, true, true, true, true, false, false, false, false, false, false, false, false, false, false, false] rfl rfl (any_of HT_.out (by kernel_rfl)) (fun _ _ _ h => h) (Or.inl ⟨by rfl, ?_⟩) ?_ ?_
                    rotate_left
                    · intro w'
                      go_simp
                      with_reducible rfl
                    rotate_left
                    · simp only [Act.put, List.setIfInBounds_toArray, List.set_cons_zero, List.set_cons_succ, i64_w, i32_w]
                      rfl
                    refine pure_ (i := 9) (N := some 32) (v := ?_) (a' := ?_) #[true, true, true, true, true, true, true, true, true, true, false, false, false, false, false, false, false, false, false, false] rfl rfl (any_of HT_.out (by kernel_rfl)) (fun _ _ _ h => h) (Or.inl ⟨by rfl, ?_⟩) ?_ ?_
                    rotate_left
                    · intro w'
                      go_simp
                      with_reducible rfl
                    rotate_left
                    · simp only [Act.put, List.setIfInBounds_toArray, List.set_cons_zero, List.set_cons_succ, i64_w, i32_w]
                      rfl
                    refine pure_ (i := 10) (N := some 33) (v := ?_) (a' := ?_) #[true, true, true, true, true, true, true, true, true, true, true, false, false, false, false, false, false, false, false, false] rfl rfl (any_of HT_.out (by kernel_rfl)) (fun _ _ _ h => h) (Or.inl ⟨by rfl, ?_⟩) ?_ ?_
                    rotate_left
                    · intro w'
                      go_simp
                      with_reducible rfl
                    rotate_left
                    · simp only [Act.put, List.setIfInBounds_toArray, List.set_cons_zero, List.set_cons_succ, i64_w, i32_w]
                      rfl
                    refine pure_ (i := 11) (N := some 34) (v := ?_) (a' := ?_) #[true, true, true, true, true, true, true, true, true, true, true, true, false, false, false, false, false, false, false, false] rfl rfl (any_of HT_.out (by kernel_rfl)) (fun _ _ _ h => h) (Or.inl ⟨by rfl, ?_⟩) ?_ ?_
                    rotate_left
                    · intro w'
                      go_simp
                      with_reducible rfl
                    rotate_left
                    · simp only [Act.put, List.setIfInBounds_toArray, List.set_cons_zero, List.set_cons_succ, i64_w, i32_w]
                      rfl
                    refine pure_ (i := 14) (N := some 37) (v := ?_) (a' := ?_) #[true, true, true, true, true, true, true, true, true, true, true, true, false, false, true, false, false, false, false, false] rfl rfl (any_of HT_.out (by kernel_rfl)) (fun _ _ _ h => h) (Or.inl ⟨by rfl, ?_⟩) ?_ ?_
                    rotate_left
                    · intro w'
                      go_simp
                      with_reducible rfl
                    rotate_left
                    · simp only [Act.put, List.setIfInBounds_toArray, List.set_cons_zero, List.set_cons_succ, i64_w, i32_w]
                      rfl
                    refine take_ (i := 12) (N := some 35) (v := ?_) (a' := ?_) #[true, true, true, true, true, true, true, true, true, true, true, true, true, false, true, false, false, false, false, false] rfl rfl (take_ofW HT_.out HW_.out (by kernel_rfl)) (fun _ _ _ h => h) (Or.inl ⟨by rfl, ?_⟩) hHeld ?_ ?_
                    rotate_left
                    · rintro w' ⟨s0, s1⟩
                      go_simp
                      with_reducible rfl
                    rotate_left
                    · simp only [Act.put, List.setIfInBounds_toArray, List.set_cons_zero, List.set_cons_succ, i64_w, i32_w]
                      rfl
                    refine one_ (i := 13) (N := some 36) #[true, true, true, true, true, true, true, true, true, true, true, true, true, true, true, false, false, false, false, false] rfl rfl (one_of HT_.out (by kernel_rfl)) (by decide) (fun K hK => ?_)
                    refine goes_ Tryd.func11 (by kernel_rfl) rfl #[] (by rfl) rfl rfl (by (try simp only [List.map_toArray, List.map_cons, List.map_nil]); first | done | rfl | (simp only [List.length_drop, List.length_take]; rfl)) ?_
                    with_reducible refine (spec_l4Names.calls  t140 _ A14.out).mono ?_
                    rintro e w20 ⟨v141, rfl, ho0, hb⟩
                    have HS0_ := (hb.cell (World.block_lt_of_cell? _ _ (hHeld.1))).trans (hHeld.1)
                    have HS1_ : True := trivial
                    refine ⟨_, rfl, ?_⟩
                    have n0_ := Aside0.mk (Kd.R_below (by (with_reducible repeat (first | apply Kd.R_alloc | apply Kd.R_drewN | apply Kd.R_drew)); exact HO_4.out) hb)
                    have n1_ := Aside0.mk (Kd.R_elder' (by (with_reducible repeat (first | apply Kd.R_alloc | apply Kd.R_drewN | apply Kd.R_drew)); exact HO135.out) (Kd.R_base ho0) hb)
                    have n2_ := Aside0.mk (Kd.R_elder' (by (with_reducible repeat (first | apply Kd.R_alloc | apply Kd.R_drewN | apply Kd.R_drew)); exact HO138.out) (Kd.R_base ho0) hb)
                    have n3_ := Aside0.mk (Kd.R_lower (Kd.R_new' (Kd.R_new' ho0 (Kd.R_lt (by (with_reducible repeat (first | apply Kd.R_alloc | apply Kd.R_drewN | apply Kd.R_drew)); exact HO135.out))) (Kd.R_lt (by (with_reducible repeat (first | apply Kd.R_alloc | apply Kd.R_drewN | apply Kd.R_drew)); exact HO138.out))) (below_size (by repeat (first | (with_reducible first | exact HB.out | apply below_alloc | apply pw_below_drewN | apply below_drew1 | refine below_set ?_ GE128.out) | exact HB.out))))
                    have n4_ := Aside0.mk (blk_below (g := gb128) (o := .cells #[.int .i64 x129000_1, .int .i64 x129001_1, .int .i64 x129002_1, .int .i64 x129003_1, .int .i64 x129004_1, .int .i64 x129005_1, .int .i64 x129006_1, .bool x129007_1, .int .i64 x129008_1, .int .i64 x129009_1] 25 (0, 0)) (by (with_reducible repeat (first | refine blk_drewN ?_ _ | refine blk_drew ?_ | refine blk_alloc ?_ _)); exact BK128.out) hb)
                    have n5_ := Aside0.mk (below_step (by repeat (first | (with_reducible first | exact HB.out | apply below_alloc | apply pw_below_drewN | apply below_drew1 | refine below_set ?_ GE128.out) | exact HB.out)) hb)
                    clear HO_4
                    clear HO135
                    clear HO138
                    clear BK128
                    clear HB
                    have HO_4 := n0_
                    have HO135 := n1_
                    have HO138 := n2_
                    have HO142 := n3_
                    have BK128 := n4_
                    have HB := n5_
                    clear n0_ n1_ n2_ n3_ n4_ n5_
                    (try clear hb)
                    (try clear hb2)
                    (try clear hk)
                    (try clear hi)
                    (try clear ho0)
                    obtain ⟨Ao21, co21, eo21⟩ := Kd.R_slice HO142.out
                    (first | subst eo21 | (injection eo21 with f1_ f2_ f3_; have f4_ := f1_.symm; have f5_ := f3_.symm; clear f1_ f2_ f3_; subst f4_; subst f5_))
                    have p143 : 0 ≤ (x5_1 : Int) := of_decide_eq_true (by first | (with_reducible assumption) | assumption)
                    have q143 : x5_1 < (t140.length : Int) := of_decide_eq_true (by first | (with_reducible assumption) | assumption)
                    obtain ⟨ad143, e143, hx143_0⟩ := Kd.at_string (Kd.R_reads' HO142.out).2.2 x5_1 p143 q143
                    cases e143
                    replace p143 := eq_true p143
                    replace q143 := eq_true q143
                    refine hK.out _ _ ⟨HS0_, HS1_⟩ (fun hHeld => ?_)
                    clear hK K
                    refine norm_ (a' := ?_) ?_ ?_
                    rotate_left
                    · show Act.put _ (some 36) _ = _
                      simp only [Act.put, List.setIfInBounds_toArray, List.set_cons_zero, List.set_cons_succ, i64_w, i32_w]
                      rfl
                    refine pure_ (i := 15) (N := some 38) (v := ?_) (a' := ?_) #[true, true, true, true, true, true, true, true, true, true, true, true, true, true, true, true, false, false, false, false] rfl rfl (any_of HT_.out (by kernel_rfl)) (fun _ _ _ h => h) (Or.inl ⟨by rfl, ?_⟩) ?_ ?_
                    rotate_left
                    · intro w'
                      go_simp
                      with_reducible rfl
                    rotate_left
                    · simp only [Act.put, List.setIfInBounds_toArray, List.set_cons_zero, List.set_cons_succ, i64_w, i32_w]
                      rfl
                    refine one_ (i := 16) (N := some 39) #[true, true, true, true, true, true, true, true, true, true, true, true, true, true, true, true, true, false, false, false] rfl rfl (one_of HT_.out (by kernel_rfl)) (by decide) (fun K hK => ?_)
                    refine value_ (v := ?_) (w1 := ?_) (by rfl) rfl ?_ ?_
                    rotate_left
                    rotate_left
                    · go_simp
                      constructor <;> rfl
                    refine hK.out _ _ hHeld (fun hHeld => ?_)
                    clear hK K
                    refine norm_ (a' := ?_) ?_ ?_
                    rotate_left
                    · show Act.put _ (some 39) _ = _
                      simp only [Act.put, List.setIfInBounds_toArray, List.set_cons_zero, List.set_cons_succ, i64_w, i32_w]
                      rfl
                    refine pure_ (i := 17) (N := some 40) (v := ?_) (a' := ?_) #[true, true, true, true, true, true, true, true, true, true, true, true, true, true, true, true, true, true, false, false] rfl rfl (any_of HT_.out (by kernel_rfl)) (fun _ _ _ h => h) (Or.inl ⟨by rfl, ?_⟩) ?_ ?_
                    rotate_left
                    · intro w'
                      go_simp
                      with_reducible rfl
                    rotate_left
                    · simp only [Act.put, List.setIfInBounds_toArray, List.set_cons_zero, List.set_cons_succ, i64_w, i32_w]
                      rfl
                    refine pure_ (i := 18) (N := some 41) (v := ?_) (a' := ?_) #[true, true, true, true, true, true, true, true, true, true, true, true, true, true, true, true, true, true, true, false] rfl rfl (any_of HT_.out (by kernel_rfl)) (fun _ _ _ h => h) (Or.inl ⟨by rfl, ?_⟩) ?_ ?_
                    rotate_left
                    · intro w'
                      go_simp
                      with_reducible rfl
                    rotate_left
                    · simp only [Act.put, List.setIfInBounds_toArray, List.set_cons_zero, List.set_cons_succ, i64_w, i32_w]
                      rfl
                    refine pure_ (i := 19) (N := some 7) (v := ?_) (a' := ?_) #[true, true, true, true, true, true, true, true, true, true, true, true, true, true, true, true, true, true, true, true] rfl rfl (any_of HT_.out (by kernel_rfl)) (fun _ _ _ h => h) (Or.inl ⟨by rfl, ?_⟩) ?_ ?_
                    rotate_left
                    · intro w'
                      go_simp
                      with_reducible rfl
                    rotate_left
                    · simp only [Act.put, List.setIfInBounds_toArray, List.set_cons_zero, List.set_cons_succ, i64_w, i32_w]
                      rfl
                    refine done_ (done_of HT_.out (by kernel_rfl)) ?_
                    try go_wp2
                    go_meet
                    case rel => exact ⟨_, (((rdOf ByteArray.empty t133 0).toList == (rdOf ByteArray.empty t140 x5_1).toList)), (by first | rfl | (simp; done) | (simp [*]; done)), H', ⟨by have := HK1.out; first | omega | exact Nat.le_refl _⟩, ⟨by (with_reducible repeat (first | apply Kd.R_alloc | apply Kd.R_drewN | apply Kd.R_drew)); exact HO_4.out⟩, ⟨by (with_reducible repeat (first | apply Kd.R_alloc | apply Kd.R_drewN | apply Kd.R_drew)); exact Kd.R_mono HO135.out (fun _ hk => trivial)⟩, ⟨by (with_reducible repeat (first | refine blk_drewN ?_ _ | refine blk_drew ?_ | refine blk_alloc ?_ _)); exact BK128.out⟩, ⟨by repeat (first | (with_reducible first | exact HB.out | apply below_alloc | apply pw_below_drewN | apply below_drew1 | refine below_set ?_ GE128.out) | exact HB.out)⟩⟩
                  · rw [if_neg c15] at H
                    exact absurd H (by simp)
                · rw [if_neg c13] at H
                  exact absurd H (by simp)
              · rw [if_neg c12] at H
                have c12b0 : ((t133.length : Int) == 2) = false := beq_eq_false_iff_ne.mpr c12
                have c12b1 : ((t133.length : Int) != 2) = true := bne_iff_ne.mpr c12
                have H' := Aside0.mk H
                clear H
                try go_wp2
                have n0_ := Aside0.mk (Kd.R_drew HO_4.out)
                have n1_ := Aside0.mk (Kd.R_drew HO135.out)
                have n2_ := Aside0.mk (blk_drew BK128.out)
                have n3_ := Aside0.mk (below_drew1 HB.out)
                clear HO_4
                clear HO135
                clear BK128
                clear HB
                have HO_4 := n0_
                have HO135 := n1_
                have BK128 := n2_
                have HB := n3_
                clear n0_ n1_ n2_ n3_
                refine start_ (n := 20) (S := fun w' => True) (ds := []) #[false, false, false, false, false, false, false, false, false, false, false, false, false, false, false, false, false, false, false, false] (by kernel_rfl) rfl rfl trivial (fun hHeld => ?_); refine with_tabW spec_JobParse.tab6 spec_JobParse.bits6 (fun HT_ HW_ => ?_)
                generalize w9.drew = w22 at HO_4 HO135 BK128 HB hHeld ⊢
                refine pure_ (i := 0) (N := some 23) (v := ?_) (a' := ?_) #[true, false, false, false, false, false, false, false, false, false, false, false, false, false, false, false, false, false, false, false] rfl rfl (any_of HT_.out (by kernel_rfl)) (fun _ _ _ h => h) (Or.inl ⟨by rfl, ?_⟩) ?_ ?_
                rotate_left
                · intro w'
                  go_simp
                  with_reducible rfl
                rotate_left
                · simp only [Act.put, List.setIfInBounds_toArray, List.set_cons_zero, List.set_cons_succ, i64_w, i32_w]
                  rfl
                refine one_ (i := 1) (N := some 24) #[true, true, false, false, false, false, false, false, false, false, false, false, false, false, false, false, false, false, false, false] rfl rfl (one_of HT_.out (by kernel_rfl)) (by decide) (fun K hK => ?_)
                refine goes_ Tryd.func11 (by kernel_rfl) rfl #[] (by rfl) rfl rfl (by (try simp only [List.map_toArray, List.map_cons, List.map_nil]); first | done | rfl | (simp only [List.length_drop, List.length_take]; rfl)) ?_
                with_reducible refine (spec_l4Names.calls  t136 _ A10.out).mono ?_
                rintro e w23 ⟨v137, rfl, ho0, hb⟩
                refine ⟨_, rfl, ?_⟩
                have n0_ := Aside0.mk (Kd.R_below (by (with_reducible repeat (first | apply Kd.R_alloc | apply Kd.R_drewN | apply Kd.R_drew)); exact HO_4.out) hb)
                have n1_ := Aside0.mk (Kd.R_elder' (by (with_reducible repeat (first | apply Kd.R_alloc | apply Kd.R_drewN | apply Kd.R_drew)); exact HO135.out) (Kd.R_base ho0) hb)
                have n2_ := Aside0.mk (Kd.R_lower (Kd.R_new' ho0 (Kd.R_lt (by (with_reducible repeat (first | apply Kd.R_alloc | apply Kd.R_drewN | apply Kd.R_drew)); exact HO135.out))) (below_size (by repeat (first | (with_reducible first | exact HB.out | apply below_alloc | apply pw_below_drewN | apply below_drew1 | refine below_set ?_ GE128.out) | exact HB.out))))
                have n3_ := Aside0.mk (blk_below (g := gb128) (o := .cells #[.int .i64 x129000_1, .int .i64 x129001_1, .int .i64 x129002_1, .int .i64 x129003_1, .int .i64 x129004_1, .int .i64 x129005_1, .int .i64 x129006_1, .bool x129007_1, .int .i64 x129008_1, .int .i64 x129009_1] 25 (0, 0)) (by (with_reducible repeat (first | refine blk_drewN ?_ _ | refine blk_drew ?_ | refine blk_alloc ?_ _)); exact BK128.out) hb)
                have n4_ := Aside0.mk (below_step (by repeat (first | (with_reducible first | exact HB.out | apply below_alloc | apply pw_below_drewN | apply below_drew1 | refine below_set ?_ GE128.out) | exact HB.out)) hb)
                clear HO_4
                clear HO135
                clear BK128
                clear HB
                have HO_4 := n0_
                have HO135 := n1_
                have HO138 := n2_
                have BK128 := n3_
                have HB := n4_
                clear n0_ n1_ n2_ n3_ n4_
                (try clear hb)
                (try clear hb2)
                (try clear hk)
                (try clear hi)
                (try clear ho0)
                obtain ⟨Ao24, co24, eo24⟩ := Kd.R_slice HO138.out
                (first | subst eo24 | (injection eo24 with f1_ f2_ f3_; have f4_ := f1_.symm; have f5_ := f3_.symm; clear f1_ f2_ f3_; subst f4_; subst f5_))
                obtain ⟨Ao25, co25, eo25⟩ := Kd.R_slice HO135.out
                (first | subst eo25 | (injection eo25 with f1_ f2_ f3_; have f4_ := f1_.symm; have f5_ := f3_.symm; clear f1_ f2_ f3_; subst f4_; subst f5_))
                refine hK.out _ _ trivial (fun hHeld => ?_)
                clear hK K
                refine norm_ (a' := ?_) ?_ ?_
                rotate_left
                · show Act.put _ (some 24) _ = _
                  simp only [Act.put, List.setIfInBounds_toArray, List.set_cons_zero, List.set_cons_succ, i64_w, i32_w]
                  rfl
                refine pure_ (i := 2) (N := some 25) (v := ?_) (a' := ?_) #[true, true, true, false, false, false, false, false, false, false, false, false, false, false, false, false, false, false, false, false] rfl rfl (any_of HT_.out (by kernel_rfl)) (fun _ _ _ h => h) (Or.inl ⟨by rfl, ?_⟩) ?_ ?_
                rotate_left
                · intro w'
                  go_simp
                  with_reducible rfl
                rotate_left
                · simp only [Act.put, List.setIfInBounds_toArray, List.set_cons_zero, List.set_cons_succ, i64_w, i32_w]
                  rfl
                refine pure_ (i := 3) (N := some 26) (v := ?_) (a' := ?_) #[true, true, true, true, false, false, false, false, false, false, false, false, false, false, false, false, false, false, false, false] rfl rfl (any_of HT_.out (by kernel_rfl)) (fun _ _ _ h => h) (Or.inl ⟨by rfl, ?_⟩) ?_ ?_
                rotate_left
                · intro w'
                  go_simp
                  with_reducible rfl
                rotate_left
                · simp only [Act.put, List.setIfInBounds_toArray, List.set_cons_zero, List.set_cons_succ, i64_w, i32_w]
                  rfl
                refine pure_ (i := 4) (N := some 27) (v := ?_) (a' := ?_) #[true, true, true, true, true, false, false, false, false, false, false, false, false, false, false, false, false, false, false, false] rfl rfl (any_of HT_.out (by kernel_rfl)) (fun _ _ _ h => h) (Or.inl ⟨by rfl, ?_⟩) ?_ ?_
                rotate_left
                · intro w'
                  go_simp
                  with_reducible rfl
                rotate_left
                · simp only [Act.put, List.setIfInBounds_toArray, List.set_cons_zero, List.set_cons_succ, i64_w, i32_w]
                  rfl
                refine pure_ (i := 5) (N := some 28) (v := ?_) (a' := ?_) #[true, true, true, true, true, true, false, false, false, false, false, false, false, false, false, false, false, false, false, false] rfl rfl (any_of HT_.out (by kernel_rfl)) (fun _ _ _ h => h) (Or.inl ⟨by rfl, ?_⟩) ?_ ?_
                rotate_left
                · intro w'
                  go_simp
                  with_reducible rfl
                rotate_left
                · simp only [Act.put, List.setIfInBounds_toArray, List.set_cons_zero, List.set_cons_succ, i64_w, i32_w]
                  rfl
                refine pure_ (i := 6) (N := some 29) (v := ?_) (a' := ?_) #[true, true, true, true, true, true, true, false, false, false, false, false, false, false, false, false, false, false, false, false] rfl rfl (any_of HT_.out (by kernel_rfl)) (fun _ _ _ h => h) (Or.inl ⟨by rfl, ?_⟩) ?_ ?_
                rotate_left
                · intro w'
                  go_simp
                  with_reducible rfl
                rotate_left
                · simp only [Act.put, List.setIfInBounds_toArray, List.set_cons_zero, List.set_cons_succ, i64_w, i32_w]
                  rfl
                refine pure_ (i := 7) (N := some 30) (v := ?_) (a' := ?_) #[true, true, true, true, true, true, true, true, false, false, false, false, false, false, false, false, false, false, false, false] rfl rfl (any_of HT_.out (by kernel_rfl)) (fun _ _ _ h => h) (Or.inl ⟨by rfl, ?_⟩) ?_ ?_
                rotate_left
                · intro w'
                  go_simp
                  with_reducible rfl
                rotate_left
                · simp only [Act.put, List.setIfInBounds_toArray, List.set_cons_zero, List.set_cons_succ, i64_w, i32_w]
                  rfl
                refine pure_ (i := 8) (N := some 31) (v := ?_) (a' := ?_) #[true, true, true, true, true, true, true, true, true, false, false, false, false, false, false, false, false, false, false, false] rfl rfl (any_of HT_.out (by kernel_rfl)) (fun _ _ _ h => h) (Or.inl ⟨by rfl, ?_⟩) ?_ ?_
                rotate_left
                · intro w'
                  go_simp
                  with_reducible rfl
                rotate_left
                · simp only [Act.put, List.setIfInBounds_toArray, List.set_cons_zero, List.set_cons_succ, i64_w, i32_w]
                  rfl
                refine pure_ (i := 9) (N := some 32) (v := ?_) (a' := ?_) #[true, true, true, true, true, true, true, true, true, true, false, false, false, false, false, false, false, false, false, false] rfl rfl (any_of HT_.out (by kernel_rfl)) (fun _ _ _ h => h) (Or.inl ⟨by rfl, ?_⟩) ?_ ?_
                rotate_left
                · intro w'
                  go_simp
                  with_reducible rfl
                rotate_left
                · simp only [Act.put, List.setIfInBounds_toArray, List.set_cons_zero, List.set_cons_succ, i64_w, i32_w]
                  rfl
                refine pure_ (i := 10) (N := some 33) (v := undef) (a' := ?_) #[true, true, true, true, true, true, true, true, true, true, true, false, false, false, false, false, false, false, false, false] rfl rfl (any_of HT_.out (by kernel_rfl)) (fun _ _ _ h => h) (Or.inr ⟨by rfl, rfl⟩) ?_ ?_
                rotate_left
                · simp only [Act.put, List.setIfInBounds_toArray, List.set_cons_zero, List.set_cons_succ, i64_w, i32_w]
                  rfl
                refine pure_ (i := 11) (N := some 34) (v := undef) (a' := ?_) #[true, true, true, true, true, true, true, true, true, true, true, true, false, false, false, false, false, false, false, false] rfl rfl (any_of HT_.out (by kernel_rfl)) (fun _ _ _ h => h) (Or.inr ⟨by rfl, rfl⟩) ?_ ?_
                rotate_left
                · simp only [Act.put, List.setIfInBounds_toArray, List.set_cons_zero, List.set_cons_succ, i64_w, i32_w]
                  rfl
                refine pure_ (i := 12) (N := some 35) (v := undef) (a' := ?_) #[true, true, true, true, true, true, true, true, true, true, true, true, true, false, false, false, false, false, false, false] rfl rfl (any_of HT_.out (by kernel_rfl)) (fun _ _ _ h => h) (Or.inr ⟨by rfl, rfl⟩) ?_ ?_
                rotate_left
                · simp only [Act.put, List.setIfInBounds_toArray, List.set_cons_zero, List.set_cons_succ, i64_w, i32_w]
                  rfl
                refine pure_ (i := 13) (N := some 36) (v := undef) (a' := ?_) #[true, true, true, true, true, true, true, true, true, true, true, true, true, true, false, false, false, false, false, false] rfl rfl (any_of HT_.out (by kernel_rfl)) (fun _ _ _ h => h) (Or.inr ⟨by rfl, rfl⟩) ?_ ?_
                rotate_left
                · simp only [Act.put, List.setIfInBounds_toArray, List.set_cons_zero, List.set_cons_succ, i64_w, i32_w]
                  rfl
                refine pure_ (i := 14) (N := some 37) (v := undef) (a' := ?_) #[true, true, true, true, true, true, true, true, true, true, true, true, true, true, true, false, false, false, false, false] rfl rfl (any_of HT_.out (by kernel_rfl)) (fun _ _ _ h => h) (Or.inr ⟨by rfl, rfl⟩) ?_ ?_
                rotate_left
                · simp only [Act.put, List.setIfInBounds_toArray, List.set_cons_zero, List.set_cons_succ, i64_w, i32_w]
                  rfl
                refine pure_ (i := 15) (N := some 38) (v := undef) (a' := ?_) #[true, true, true, true, true, true, true, true, true, true, true, true, true, true, true, true, false, false, false, false] rfl rfl (any_of HT_.out (by kernel_rfl)) (fun _ _ _ h => h) (Or.inr ⟨by rfl, rfl⟩) ?_ ?_
                rotate_left
                · simp only [Act.put, List.setIfInBounds_toArray, List.set_cons_zero, List.set_cons_succ, i64_w, i32_w]
                  rfl
                refine pure_ (i := 16) (N := some 39) (v := undef) (a' := ?_) #[true, true, true, true, true, true, true, true, true, true, true, true, true, true, true, true, true, false, false, false] rfl rfl (any_of HT_.out (by kernel_rfl)) (fun _ _ _ h => h) (Or.inr ⟨by rfl, rfl⟩) ?_ ?_
                rotate_left
                · simp only [Act.put, List.setIfInBounds_toArray, List.set_cons_zero, List.set_cons_succ, i64_w, i32_w]
                  rfl
                refine pure_ (i := 17) (N := some 40) (v := undef) (a' := ?_) #[true, true, true, true, true, true, true, true, true, true, true, true, true, true, true, true, true, true, false, false] rfl rfl (any_of HT_.out (by kernel_rfl)) (fun _ _ _ h => h) (Or.inr ⟨by rfl, rfl⟩) ?_ ?_
                rotate_left
                · simp only [Act.put, List.setIfInBounds_toArray, List.set_cons_zero, List.set_cons_succ, i64_w, i32_w]
                  rfl
                refine pure_ (i := 18) (N := some 41) (v := ?_) (a' := ?_) #[true, true, true, true, true, true, true, true, true, true, true, true, true, true, true, true, true, true, true, false] rfl rfl (any_of HT_.out (by kernel_rfl)) (fun _ _ _ h => h) (Or.inl ⟨by rfl, ?_⟩) ?_ ?_
                rotate_left
                · intro w'
                  go_simp
                  with_reducible rfl
                rotate_left
                · simp only [Act.put, List.setIfInBounds_toArray, List.set_cons_zero, List.set_cons_succ, i64_w, i32_w]
                  rfl
                refine pure_ (i := 19) (N := some 7) (v := ?_) (a' := ?_) #[true, true, true, true, true, true, true, true, true, true, true, true, true, true, true, true, true, true, true, true] rfl rfl (any_of HT_.out (by kernel_rfl)) (fun _ _ _ h => h) (Or.inl ⟨by rfl, ?_⟩) ?_ ?_
                rotate_left
                · intro w'
                  go_simp
                  with_reducible rfl
                rotate_left
                · simp only [Act.put, List.setIfInBounds_toArray, List.set_cons_zero, List.set_cons_succ, i64_w, i32_w]
                  rfl
                refine done_ (done_of HT_.out (by kernel_rfl)) ?_
                try go_wp2
                go_meet
                case rel => exact ⟨_, (false), (by first | rfl | (simp; done) | (simp [*]; done)), H', ⟨by have := HK1.out; first | omega | exact Nat.le_refl _⟩, ⟨by (with_reducible repeat (first | apply Kd.R_alloc | apply Kd.R_drewN | apply Kd.R_drew)); exact HO_4.out⟩, ⟨by (with_reducible repeat (first | apply Kd.R_alloc | apply Kd.R_drewN | apply Kd.R_drew)); exact Kd.R_mono HO135.out (fun _ hk => trivial)⟩, ⟨by (with_reducible repeat (first | refine blk_drewN ?_ _ | refine blk_drew ?_ | refine blk_alloc ?_ _)); exact BK128.out⟩, ⟨by repeat (first | (with_reducible first | exact HB.out | apply below_alloc | apply pw_below_drewN | apply below_drew1 | refine below_set ?_ GE128.out) | exact HB.out)⟩⟩
            · rw [if_neg c11] at H
              have c11b0 : decide (x5_1 < (t136.length : Int)) = false := decide_eq_false c11
              clear c11
              (first | rw [c11b0] | (simp only [i64_w, i32_w]; rw [c11b0]) | skip)
              have H' := Aside0.mk H
              clear H
              try go_wp2
              have n0_ := Aside0.mk (Kd.R_drew HO_4.out)
              have n1_ := Aside0.mk (Kd.R_drew HO135.out)
              have n2_ := Aside0.mk (blk_drew BK128.out)
              have n3_ := Aside0.mk (below_drew1 HB.out)
              clear HO_4
              clear HO135
              clear BK128
              clear HB
              have HO_4 := n0_
              have HO135 := n1_
              have BK128 := n2_
              have HB := n3_
              clear n0_ n1_ n2_ n3_
              refine start_ (n := 20) (S := fun w' => True) (ds := []) #[false, false, false, false, false, false, false, false, false, false, false, false, false, false, false, false, false, false, false, false] (by kernel_rfl) rfl rfl trivial (fun hHeld => ?_); refine with_tabW spec_JobParse.tab6 spec_JobParse.bits6 (fun HT_ HW_ => ?_)
              generalize w9.drew = w26 at HO_4 HO135 BK128 HB hHeld ⊢
              refine pure_ (i := 0) (N := some 23) (v := ?_) (a' := ?_) #[true, false, false, false, false, false, false, false, false, false, false, false, false, false, false, false, false, false, false, false] rfl rfl (any_of HT_.out (by kernel_rfl)) (fun _ _ _ h => h) (Or.inl ⟨by rfl, ?_⟩) ?_ ?_
              rotate_left
              · intro w'
                go_simp
                with_reducible rfl
              rotate_left
              · simp only [Act.put, List.setIfInBounds_toArray, List.set_cons_zero, List.set_cons_succ, i64_w, i32_w]
                rfl
              refine one_ (i := 1) (N := some 24) #[true, true, false, false, false, false, false, false, false, false, false, false, false, false, false, false, false, false, false, false] rfl rfl (one_of HT_.out (by kernel_rfl)) (by decide) (fun K hK => ?_)
              refine goes_ Tryd.func11 (by kernel_rfl) rfl #[] (by rfl) rfl rfl (by (try simp only [List.map_toArray, List.map_cons, List.map_nil]); first | done | rfl | (simp only [List.length_drop, List.length_take]; rfl)) ?_
              with_reducible refine (spec_l4Names.calls  t136 _ A10.out).mono ?_
              rintro e w27 ⟨v137, rfl, ho0, hb⟩
              refine ⟨_, rfl, ?_⟩
              have n0_ := Aside0.mk (Kd.R_below (by (with_reducible repeat (first | apply Kd.R_alloc | apply Kd.R_drewN | apply Kd.R_drew)); exact HO_4.out) hb)
              have n1_ := Aside0.mk (Kd.R_elder' (by (with_reducible repeat (first | apply Kd.R_alloc | apply Kd.R_drewN | apply Kd.R_drew)); exact HO135.out) (Kd.R_base ho0) hb)
              have n2_ := Aside0.mk (Kd.R_lower (Kd.R_new' ho0 (Kd.R_lt (by (with_reducible repeat (first | apply Kd.R_alloc | apply Kd.R_drewN | apply Kd.R_drew)); exact HO135.out))) (below_size (by repeat (first | (with_reducible first | exact HB.out | apply below_alloc | apply pw_below_drewN | apply below_drew1 | refine below_set ?_ GE128.out) | exact HB.out))))
              have n3_ := Aside0.mk (blk_below (g := gb128) (o := .cells #[.int .i64 x129000_1, .int .i64 x129001_1, .int .i64 x129002_1, .int .i64 x129003_1, .int .i64 x129004_1, .int .i64 x129005_1, .int .i64 x129006_1, .bool x129007_1, .int .i64 x129008_1, .int .i64 x129009_1] 25 (0, 0)) (by (with_reducible repeat (first | refine blk_drewN ?_ _ | refine blk_drew ?_ | refine blk_alloc ?_ _)); exact BK128.out) hb)
              have n4_ := Aside0.mk (below_step (by repeat (first | (with_reducible first | exact HB.out | apply below_alloc | apply pw_below_drewN | apply below_drew1 | refine below_set ?_ GE128.out) | exact HB.out)) hb)
              clear HO_4
              clear HO135
              clear BK128
              clear HB
              have HO_4 := n0_
              have HO135 := n1_
              have HO138 := n2_
              have BK128 := n3_
              have HB := n4_
              clear n0_ n1_ n2_ n3_ n4_
              (try clear hb)
              (try clear hb2)
              (try clear hk)
              (try clear hi)
              (try clear ho0)
              obtain ⟨Ao28, co28, eo28⟩ := Kd.R_slice HO138.out
              (first | subst eo28 | (injection eo28 with f1_ f2_ f3_; have f4_ := f1_.symm; have f5_ := f3_.symm; clear f1_ f2_ f3_; subst f4_; subst f5_))
              refine hK.out _ _ trivial (fun hHeld => ?_)
              clear hK K
              refine norm_ (a' := ?_) ?_ ?_
              rotate_left
              · show Act.put _ (some 24) _ = _
                simp only [Act.put, List.setIfInBounds_toArray, List.set_cons_zero, List.set_cons_succ, i64_w, i32_w]
                rfl
              refine pure_ (i := 2) (N := some 25) (v := ?_) (a' := ?_) #[true, true, true, false, false, false, false, false, false, false, false, false, false, false, false, false, false, false, false, false] rfl rfl (any_of HT_.out (by kernel_rfl)) (fun _ _ _ h => h) (Or.inl ⟨by rfl, ?_⟩) ?_ ?_
              rotate_left
              · intro w'
                go_simp
                with_reducible rfl
              rotate_left
              · simp only [Act.put, List.setIfInBounds_toArray, List.set_cons_zero, List.set_cons_succ, i64_w, i32_w]
                rfl
              refine pure_ (i := 3) (N := some 26) (v := ?_) (a' := ?_) #[true, true, true, true, false, false, false, false, false, false, false, false, false, false, false, false, false, false, false, false] rfl rfl (any_of HT_.out (by kernel_rfl)) (fun _ _ _ h => h) (Or.inl ⟨by rfl, ?_⟩) ?_ ?_
              rotate_left
              · intro w'
                go_simp
                with_reducible rfl
              rotate_left
              · simp only [Act.put, List.setIfInBounds_toArray, List.set_cons_zero, List.set_cons_succ, i64_w, i32_w]
                rfl
              refine pure_ (i := 4) (N := some 27) (v := ?_) (a' := ?_) #[true, true, true, true, true, false, false, false, false, false, false, false, false, false, false, false, false, false, false, false] rfl rfl (any_of HT_.out (by kernel_rfl)) (fun _ _ _ h => h) (Or.inl ⟨by rfl, ?_⟩) ?_ ?_
              rotate_left
              · intro w'
                go_simp
                with_reducible rfl
              rotate_left
              · simp only [Act.put, List.setIfInBounds_toArray, List.set_cons_zero, List.set_cons_succ, i64_w, i32_w]
                rfl
              refine pure_ (i := 5) (N := some 28) (v := undef) (a' := ?_) #[true, true, true, true, true, true, false, false, false, false, false, false, false, false, false, false, false, false, false, false] rfl rfl (any_of HT_.out (by kernel_rfl)) (fun _ _ _ h => h) (Or.inr ⟨by rfl, rfl⟩) ?_ ?_
              rotate_left
              · simp only [Act.put, List.setIfInBounds_toArray, List.set_cons_zero, List.set_cons_succ, i64_w, i32_w]
                rfl
              refine pure_ (i := 6) (N := some 29) (v := undef) (a' := ?_) #[true, true, true, true, true, true, true, false, false, false, false, false, false, false, false, false, false, false, false, false] rfl rfl (any_of HT_.out (by kernel_rfl)) (fun _ _ _ h => h) (Or.inr ⟨by rfl, rfl⟩) ?_ ?_
              rotate_left
              · simp only [Act.put, List.setIfInBounds_toArray, List.set_cons_zero, List.set_cons_succ, i64_w, i32_w]
                rfl
              refine pure_ (i := 7) (N := some 30) (v := undef) (a' := ?_) #[true, true, true, true, true, true, true, true, false, false, false, false, false, false, false, false, false, false, false, false] rfl rfl (any_of HT_.out (by kernel_rfl)) (fun _ _ _ h => h) (Or.inr ⟨by rfl, rfl⟩) ?_ ?_
              rotate_left
              · simp only [Act.put, List.setIfInBounds_toArray, List.set_cons_zero, List.set_cons_succ, i64_w, i32_w]
                rfl
              refine pure_ (i := 8) (N := some 31) (v := ?_) (a' := ?_) #[true, true, true, true, true, true, true, true, true, false, false, false, false, false, false, false, false, false, false, false] rfl rfl (any_of HT_.out (by kernel_rfl)) (fun _ _ _ h => h) (Or.inl ⟨by rfl, ?_⟩) ?_ ?_
              rotate_left
              · intro w'
                go_simp
                with_reducible rfl
              rotate_left
              · simp only [Act.put, List.setIfInBounds_toArray, List.set_cons_zero, List.set_cons_succ, i64_w, i32_w]
                rfl
              refine pure_ (i := 9) (N := some 32) (v := ?_) (a' := ?_) #[true, true, true, true, true, true, true, true, true, true, false, false, false, false, false, false, false, false, false, false] rfl rfl (any_of HT_.out (by kernel_rfl)) (fun _ _ _ h => h) (Or.inl ⟨by rfl, ?_⟩) ?_ ?_
              rotate_left
              · intro w'
                go_simp
                with_reducible rfl
              rotate_left
              · simp only [Act.put, List.setIfInBounds_toArray, List.set_cons_zero, List.set_cons_succ, i64_w, i32_w]
                rfl
              refine pure_ (i := 10) (N := some 33) (v := undef) (a' := ?_) #[true, true, true, true, true, true, true, true, true, true, true, false, false, false, false, false, false, false, false, false] rfl rfl (any_of HT_.out (by kernel_rfl)) (fun _ _ _ h => h) (Or.inr ⟨by rfl, rfl⟩) ?_ ?_
              rotate_left
              · simp only [Act.put, List.setIfInBounds_toArray, List.set_cons_zero, List.set_cons_succ, i64_w, i32_w]
                rfl
              refine pure_ (i := 11) (N := some 34) (v := undef) (a' := ?_) #[true, true, true, true, true, true, true, true, true, true, true, true, false, false, false, false, false, false, false, false] rfl rfl (any_of HT_.out (by kernel_rfl)) (fun _ _ _ h => h) (Or.inr ⟨by rfl, rfl⟩) ?_ ?_
              rotate_left
              · simp only [Act.put, List.setIfInBounds_toArray, List.set_cons_zero, List.set_cons_succ, i64_w, i32_w]
                rfl
              refine pure_ (i := 12) (N := some 35) (v := undef) (a' := ?_) #[true, true, true, true, true, true, true, true, true, true, true, true, true, false, false, false, false, false, false, false] rfl rfl (any_of HT_.out (by kernel_rfl)) (fun _ _ _ h => h) (Or.inr ⟨by rfl, rfl⟩) ?_ ?_
              rotate_left
              · simp only [Act.put, List.setIfInBounds_toArray, List.set_cons_zero, List.set_cons_succ, i64_w, i32_w]
                rfl
              refine pure_ (i := 13) (N := some 36) (v := undef) (a' := ?_) #[true, true, true, true, true, true, true, true, true, true, true, true, true, true, false, false, false, false, false, false] rfl rfl (any_of HT_.out (by kernel_rfl)) (fun _ _ _ h => h) (Or.inr ⟨by rfl, rfl⟩) ?_ ?_
              rotate_left
              · simp only [Act.put, List.setIfInBounds_toArray, List.set_cons_zero, List.set_cons_succ, i64_w, i32_w]
                rfl
              refine pure_ (i := 14) (N := some 37) (v := undef) (a' := ?_) #[true, true, true, true, true, true, true, true, true, true, true, true, true, true, true, false, false, false, false, false] rfl rfl (any_of HT_.out (by kernel_rfl)) (fun _ _ _ h => h) (Or.inr ⟨by rfl, rfl⟩) ?_ ?_
              rotate_left
              · simp only [Act.put, List.setIfInBounds_toArray, List.set_cons_zero, List.set_cons_succ, i64_w, i32_w]
                rfl
              refine pure_ (i := 15) (N := some 38) (v := undef) (a' := ?_) #[true, true, true, true, true, true, true, true, true, true, true, true, true, true, true, true, false, false, false, false] rfl rfl (any_of HT_.out (by kernel_rfl)) (fun _ _ _ h => h) (Or.inr ⟨by rfl, rfl⟩) ?_ ?_
              rotate_left
              · simp only [Act.put, List.setIfInBounds_toArray, List.set_cons_zero, List.set_cons_succ, i64_w, i32_w]
                rfl
              refine pure_ (i := 16) (N := some 39) (v := undef) (a' := ?_) #[true, true, true, true, true, true, true, true, true, true, true, true, true, true, true, true, true, false, false, false] rfl rfl (any_of HT_.out (by kernel_rfl)) (fun _ _ _ h => h) (Or.inr ⟨by rfl, rfl⟩) ?_ ?_
              rotate_left
              · simp only [Act.put, List.setIfInBounds_toArray, List.set_cons_zero, List.set_cons_succ, i64_w, i32_w]
                rfl
              refine pure_ (i := 17) (N := some 40) (v := undef) (a' := ?_) #[true, true, true, true, true, true, true, true, true, true, true, true, true, true, true, true, true, true, false, false] rfl rfl (any_of HT_.out (by kernel_rfl)) (fun _ _ _ h => h) (Or.inr ⟨by rfl, rfl⟩) ?_ ?_
              rotate_left
              · simp only [Act.put, List.setIfInBounds_toArray, List.set_cons_zero, List.set_cons_succ, i64_w, i32_w]
                rfl
              refine pure_ (i := 18) (N := some 41) (v := ?_) (a' := ?_) #[true, true, true, true, true, true, true, true, true, true, true, true, true, true, true, true, true, true, true, false] rfl rfl (any_of HT_.out (by kernel_rfl)) (fun _ _ _ h => h) (Or.inl ⟨by rfl, ?_⟩) ?_ ?_
              rotate_left
              · intro w'
                go_simp
                with_reducible rfl
              rotate_left
              · simp only [Act.put, List.setIfInBounds_toArray, List.set_cons_zero, List.set_cons_succ, i64_w, i32_w]
                rfl
              refine pure_ (i := 19) (N := some 7) (v := ?_) (a' := ?_) #[true, true, true, true, true, true, true, true, true, true, true, true, true, true, true, true, true, true, true, true] rfl rfl (any_of HT_.out (by kernel_rfl)) (fun _ _ _ h => h) (Or.inl ⟨by rfl, ?_⟩) ?_ ?_
              rotate_left
              · intro w'
                go_simp
                with_reducible rfl
              rotate_left
              · simp only [Act.put, List.setIfInBounds_toArray, List.set_cons_zero, List.set_cons_succ, i64_w, i32_w]
                rfl
              refine done_ (done_of HT_.out (by kernel_rfl)) ?_
              try go_wp2
              go_meet
              case rel => exact ⟨_, (false), (by first | rfl | (simp; done) | (simp [*]; done)), H', ⟨by have := HK1.out; first | omega | exact Nat.le_refl _⟩, ⟨by (with_reducible repeat (first | apply Kd.R_alloc | apply Kd.R_drewN | apply Kd.R_drew)); exact HO_4.out⟩, ⟨by (with_reducible repeat (first | apply Kd.R_alloc | apply Kd.R_drewN | apply Kd.R_drew)); exact Kd.R_mono HO135.out (fun _ hk => trivial)⟩, ⟨by (with_reducible repeat (first | refine blk_drewN ?_ _ | refine blk_drew ?_ | refine blk_alloc ?_ _)); exact BK128.out⟩, ⟨by repeat (first | (with_reducible first | exact HB.out | apply below_alloc | apply pw_below_drewN | apply below_drew1 | refine below_set ?_ GE128.out) | exact HB.out)⟩⟩
          case rest =>
            clear HC8
            try clear c1
            try clear p1
            try clear q1
            try clear hx1
            try clear qi1
            try clear p2
            try clear c11
            try clear c11b0
            try clear c12
            try clear c12b0
            try clear c12b1
            try clear c13
            try clear p13
            try clear q13
            try clear hx13
            try clear qi13
            try clear p14
            try clear q14
            try clear hx14
            try clear c15
            try clear hx139_0
            try clear hx143_0
            try clear p139
            try clear p143
            try clear q139
            try clear q143
            obtain ⟨kq, x7_7, rfl, HA, HJ7, HO_4, HO_6, BK128, HB⟩ := hcut
            cases kq with
            | zero => exact absurd HA.out (by simp [spec_JobParse.j1])
            | succ kj7 =>
              have H := HA.out
              clear HA
              simp only [spec_JobParse.j1] at H
              by_cases c29 : x7_7 = true
              · subst c29
                have H1 : (if 1 < (t133.length : Int) then ((spec_l1Number.f kj7 (rdOf ByteArray.empty t133 1)).bind fun bt145 => (if x4_1.length < 17592186044416 then ((some (x4_1 ++ [bt145.1] : List Int)).bind fun y147 => (if bt145.2 = true then (if x5_1 = 7 then ((spec_l1In.f bt145.1 0 1).bind fun t150 => (if t150 = true then (spec_JobParse.l0 kj7 l0 y147 (wrap64 (x5_1 + 1))) else (some (0, 0, 0, 0, 0, 0, 0, false, 0, 0, wrap64 (x5_1 + 1))))) else (spec_JobParse.l0 kj7 l0 y147 (wrap64 (x5_1 + 1)))) else (some (0, 0, 0, 0, 0, 0, 0, false, 0, 0, wrap64 (x5_1 + 1))))) else (none))) else (none)) = some (r1, r2, r3, r4, r5, r6, r7, r8, r9, r10, r11) := by rw [if_pos rfl] at H; exact H
                clear H
                have H := H1
                clear H1
                by_cases c30 : 1 < (t133.length : Int)
                · rw [if_pos c30] at H
                  have c30b0 : decide (1 < (t133.length : Int)) = true := decide_eq_true c30
                  have c30b1 : decide (1 < t133.length) = true := decide_eq_true (by omega)
                  clear c30
                  replace H := Option.bind_eq_some_iff.mp H
                  obtain ⟨⟨t145, t146⟩, A310, H⟩ := H
                  replace H : (if x4_1.length < 17592186044416 then ((some (x4_1 ++ [t145] : List Int)).bind fun y147 => (if t146 = true then (if x5_1 = 7 then ((spec_l1In.f t145 0 1).bind fun t150 => (if t150 = true then (spec_JobParse.l0 kj7 l0 y147 (wrap64 (x5_1 + 1))) else (some (0, 0, 0, 0, 0, 0, 0, false, 0, 0, wrap64 (x5_1 + 1))))) else (spec_JobParse.l0 kj7 l0 y147 (wrap64 (x5_1 + 1)))) else (some (0, 0, 0, 0, 0, 0, 0, false, 0, 0, wrap64 (x5_1 + 1))))) else (none)) = some (r1, r2, r3, r4, r5, r6, r7, r8, r9, r10, r11) := H
                  have A31 := Aside0.mk A310
                  clear A310
                  by_cases c32 : x4_1.length < 17592186044416
                  · rw [if_pos c32] at H
                    have LMc32 := Aside0.mk c32
                    clear c32
                    obtain ⟨y147, hy147⟩ : ∃ y_ : List Int, y_ = (x4_1 ++ [t145]) := ⟨_, rfl⟩
                    replace H : (if t146 = true then (if x5_1 = 7 then ((spec_l1In.f t145 0 1).bind fun t150 => (if t150 = true then (spec_JobParse.l0 kj7 l0 y147 (wrap64 (x5_1 + 1))) else (some (0, 0, 0, 0, 0, 0, 0, false, 0, 0, wrap64 (x5_1 + 1))))) else (spec_JobParse.l0 kj7 l0 y147 (wrap64 (x5_1 + 1)))) else (some (0, 0, 0, 0, 0, 0, 0, false, 0, 0, wrap64 (x5_1 + 1)))) = some (r1, r2, r3, r4, r5, r6, r7, r8, r9, r10, r11) := by first | (rw [hy147]; with_reducible exact H) | (have H2_ := (Option.bind_some _ _).symm.trans H; rw [hy147]; with_reducible exact H2_) | (have H2_ := (Option.bind_some _ _).symm.trans H; with_reducible exact H2_) | with_reducible exact H | (rw [hy147]; exact H) | exact H
                    have Ny147 := Aside0.mk hy147
                    clear hy147
                    by_cases c33 : t146 = true
                    · subst c33
                      have H1 : (if x5_1 = 7 then ((spec_l1In.f t145 0 1).bind fun t150 => (if t150 = true then (spec_JobParse.l0 kj7 l0 y147 (wrap64 (x5_1 + 1))) else (some (0, 0, 0, 0, 0, 0, 0, false, 0, 0, wrap64 (x5_1 + 1))))) else (spec_JobParse.l0 kj7 l0 y147 (wrap64 (x5_1 + 1)))) = some (r1, r2, r3, r4, r5, r6, r7, r8, r9, r10, r11) := by rw [if_pos rfl] at H; exact H
                      clear H
                      have H := H1
                      clear H1
                      by_cases c34 : x5_1 = 7
                      · rw [if_pos c34] at H
                        have c34b0 : (x5_1 == 7) = true := beq_iff_eq.mpr c34
                        have c34b1 : (x5_1 != 7) = false := bne_eq_false_iff_eq.mpr c34
                        clear c34
                        replace H := Option.bind_eq_some_iff.mp H
                        obtain ⟨t150, A350, H⟩ := H
                        replace H : (if t150 = true then (spec_JobParse.l0 kj7 l0 y147 (wrap64 (x5_1 + 1))) else (some (0, 0, 0, 0, 0, 0, 0, false, 0, 0, wrap64 (x5_1 + 1)))) = some (r1, r2, r3, r4, r5, r6, r7, r8, r9, r10, r11) := H
                        have A35 := Aside0.mk A350
                        clear A350
                        by_cases c36 : t150 = true
                        · subst c36
                          have H1 : (spec_JobParse.l0 kj7 l0 y147 (wrap64 (x5_1 + 1))) = some (r1, r2, r3, r4, r5, r6, r7, r8, r9, r10, r11) := by rw [if_pos rfl] at H; exact H
                          clear H
                          have H := H1
                          clear H1
                          have H' := Aside0.mk H
                          clear H
                          obtain ⟨Ao37, co37, eo37⟩ := Kd.R_slice HO_6.out
                          subst eo37
                          have p144 : 0 ≤ (1 : Int) := (by omega)
                          have q144 : 1 < (t133.length : Int) := of_decide_eq_true (by first | (with_reducible assumption) | assumption)
                          obtain ⟨ad144, e144, hx144_0⟩ := Kd.at_string (Kd.R_reads' HO_6.out).2.2 1 p144 q144
                          cases e144
                          (try simp only [show (1 : Int).toNat = 1 from rfl, Nat.reduceMul, Nat.reduceEqDiff, Go.Addr.add, ↓reduceIte] at hx144_0)
                          have qi144 : (1 < t133.length) = True := eq_true (by omega)
                          (try rw [show ((1 : Int)).toNat = 1 from rfl] at hx144_0)
                          replace p144 := eq_true p144
                          replace q144 := eq_true q144
                          go_wp2_with (first | ((with_reducible refine gate_callee (f := 12) rfl ?_); refine goesL_ (some 47) rfl rfl Tryd.func12 (by kernel_rfl) rfl #[.string (rdOf ByteArray.empty t133 1)] rfl (by (try simp only [List.map_toArray, List.map_cons, List.map_nil]); first | done | rfl | (simp only [List.length_drop, List.length_take]; rfl)) ?_; (with_reducible refine (spec_l1Number.calls kj7 (rdOf ByteArray.empty t133 1) t145 true _ A31.out).mono ?_); rintro e w' ⟨rfl, ⟨nd, rfl⟩⟩; refine ⟨_, rfl, ?_⟩) | ((with_reducible refine gate_builtin (b := .append) (xs := #[.tmp 50, .tmp 52]) rfl ?_); (try (refine gate_guard (by rfl) ?_; dsimp only)); at_builtin; refine Kd.R_append (Kd.int .i64) (w0 := w) w.heap.size rfl (.tmp 50) (.tmp 52) 32 3 (.int .i64 0) 8 rfl Tryd.underlying32 info3 rfl (by decide) (by omega) u4 x4_1 t145 [.int .i64 t145] (fun _ => True) (fun _ => False) rfl rfl ?aP (fun _ hk => hk.elim) ?aF ?aO ?aB ?aS ?aL ?_; (case aP => exact rfl); (case aB => exact (by repeat (first | (with_reducible first | exact HB.out | apply below_alloc | apply pw_below_drewN | apply below_drew1 | refine below_set ?_ GE128.out) | exact HB.out))); (case aF => exact (fun _ _ => trivial)); (case aO => exact (by (with_reducible repeat (first | apply Kd.R_alloc | apply Kd.R_drewN | apply Kd.R_drew)); exact HO_4.out)); (case aS => exact (below_size (by repeat (first | (with_reducible first | exact HB.out | apply below_alloc | apply pw_below_drewN | apply below_drew1 | refine below_set ?_ GE128.out) | exact HB.out)))); (case aL => have := LMc32.out; omega); intro v148 w38 ho hb hg hat; rw [← Ny147.out] at ho; have n0_ := Aside0.mk (Kd.R_over' (by (with_reducible repeat (first | apply Kd.R_alloc | apply Kd.R_drewN | apply Kd.R_drew)); exact HO_6.out) (Kd.R_typed (by (with_reducible repeat (first | apply Kd.R_alloc | apply Kd.R_drewN | apply Kd.R_drew)); exact HO_4.out)) (by decide) hg); have n1_ := Aside0.mk (blk_grown (g := gb128) (o := .cells #[.int .i64 x129000_1, .int .i64 x129001_1, .int .i64 x129002_1, .int .i64 x129003_1, .int .i64 x129004_1, .int .i64 x129005_1, .int .i64 x129006_1, .bool x129007_1, .int .i64 x129008_1, .int .i64 x129009_1] 25 (0, 0)) (by (with_reducible repeat (first | refine blk_drewN ?_ _ | refine blk_drew ?_ | refine blk_alloc ?_ _)); exact BK128.out) hg (Kd.R_ne HO_4.out BK128.out (by decide))); have n2_ := Aside0.mk (hb); have n3_ := Aside0.mk (ho); clear HO_6; clear BK128; clear HB; clear HO_4; have HO_6 := n0_; have BK128 := n1_; have HB := n2_; have HO149 := n3_; clear n0_ n1_ n2_ n3_; clear ho hb hg hat) | (go_at_call 13; (with_reducible refine (spec_l1In.calls t145 0 1 true _ A35.out).mono ?_); rintro e w' ⟨rfl, ⟨nd, rfl⟩⟩))
                          go_roundg kj7
                          case measure => have := HK1.out; have := HJ7.out; omega
                          case rel => exact ⟨(y147), (wrap64 (x5_1 + 1)), (x129000_1), (x129001_1), (x129002_1), (x129003_1), (x129004_1), (x129005_1), (x129006_1), (x129007_1), (x129008_1), (x129009_1), (by first | rfl | (simp; done) | (simp [*]; done)), H', ⟨by have := HK1.out; have := HJ7.out; omega⟩, ⟨by (with_reducible repeat (first | apply Kd.R_alloc | apply Kd.R_drewN | apply Kd.R_drew)); exact HO149.out⟩, ⟨by (with_reducible repeat (first | refine blk_drewN ?_ _ | refine blk_drew ?_ | refine blk_alloc ?_ _)); exact BK128.out⟩, ⟨by repeat (first | (with_reducible first | exact HB.out | apply below_alloc | apply pw_below_drewN | apply below_drew1 | refine below_set ?_ GE128.out) | exact HB.out)⟩⟩
                        · replace c36 := Bool.eq_false_iff.mpr c36
                          subst c36
                          have H1 : (some (0, 0, 0, 0, 0, 0, 0, false, 0, 0, wrap64 (x5_1 + 1))) = some (r1, r2, r3, r4, r5, r6, r7, r8, r9, r10, r11) := by rw [if_neg (show ¬ (false = true) by decide)] at H; exact H
                          clear H
                          have H := H1
                          clear H1
                          simp only [Option.some.injEq, Prod.mk.injEq] at H
                          obtain ⟨rfl, rfl, rfl, rfl, rfl, rfl, rfl, rfl, rfl, rfl, rfl⟩ := H
                          obtain ⟨Ao39, co39, eo39⟩ := Kd.R_slice HO_6.out
                          subst eo39
                          have p144 : 0 ≤ (1 : Int) := (by omega)
                          have q144 : 1 < (t133.length : Int) := of_decide_eq_true (by first | (with_reducible assumption) | assumption)
                          obtain ⟨ad144, e144, hx144_0⟩ := Kd.at_string (Kd.R_reads' HO_6.out).2.2 1 p144 q144
                          cases e144
                          (try simp only [show (1 : Int).toNat = 1 from rfl, Nat.reduceMul, Nat.reduceEqDiff, Go.Addr.add, ↓reduceIte] at hx144_0)
                          have qi144 : (1 < t133.length) = True := eq_true (by omega)
                          (try rw [show ((1 : Int)).toNat = 1 from rfl] at hx144_0)
                          replace p144 := eq_true p144
                          replace q144 := eq_true q144
                          go_wp2_with (first | ((with_reducible refine gate_callee (f := 12) rfl ?_); refine goesL_ (some 47) rfl rfl Tryd.func12 (by kernel_rfl) rfl #[.string (rdOf ByteArray.empty t133 1)] rfl (by (try simp only [List.map_toArray, List.map_cons, List.map_nil]); first | done | rfl | (simp only [List.length_drop, List.length_take]; rfl)) ?_; (with_reducible refine (spec_l1Number.calls kj7 (rdOf ByteArray.empty t133 1) t145 true _ A31.out).mono ?_); rintro e w' ⟨rfl, ⟨nd, rfl⟩⟩; refine ⟨_, rfl, ?_⟩; (try (rw [drewN_self wc]; generalize hq_ : World.drewN wc _ = wc; have n0_ : Aside0 (Kd.R (Kd.int .i64) 3 wc w.heap.size (fun _ => True) u4 x4_1) := ⟨by rw [← hq_]; exact (by (with_reducible repeat (first | apply Kd.R_alloc | apply Kd.R_drewN | apply Kd.R_drew)); exact HO_4.out)⟩; have n1_ : Aside0 (Kd.R Kd.string 9 wc w.heap.size (fun _ => True) (.slice (some ad144) t133.length co39) t133) := ⟨by rw [← hq_]; exact (by (with_reducible repeat (first | apply Kd.R_alloc | apply Kd.R_drewN | apply Kd.R_drew)); exact HO_6.out)⟩; have n2_ : Aside0 (wc.heap[gb128]? = some (.cells #[.int .i64 x129000_1, .int .i64 x129001_1, .int .i64 x129002_1, .int .i64 x129003_1, .int .i64 x129004_1, .int .i64 x129005_1, .int .i64 x129006_1, .bool x129007_1, .int .i64 x129008_1, .int .i64 x129009_1] 25 (0, 0))) := ⟨by rw [← hq_]; exact (by (with_reducible repeat (first | refine blk_drewN ?_ _ | refine blk_drew ?_ | refine blk_alloc ?_ _)); exact BK128.out)⟩; have n3_ : Aside0 (Below w.heap.size w wc) := ⟨by rw [← hq_]; exact (by repeat (first | (with_reducible first | exact HB.out | apply below_alloc | apply pw_below_drewN | apply below_drew1 | refine below_set ?_ GE128.out) | exact HB.out))⟩; clear HO_4 HO_6 BK128 HB hq_; have HO_4 := n0_; have HO_6 := n1_; have BK128 := n2_; have HB := n3_; clear n0_ n1_ n2_ n3_))) | ((with_reducible refine gate_builtin (b := .append) (xs := #[.tmp 50, .tmp 52]) rfl ?_); (try (refine gate_guard (by rfl) ?_; dsimp only)); at_builtin; refine Kd.R_append (Kd.int .i64) (w0 := w) w.heap.size rfl (.tmp 50) (.tmp 52) 32 3 (.int .i64 0) 8 rfl Tryd.underlying32 info3 rfl (by decide) (by omega) u4 x4_1 t145 [.int .i64 t145] (fun _ => True) (fun _ => False) rfl rfl ?aP (fun _ hk => hk.elim) ?aF ?aO ?aB ?aS ?aL ?_; (case aP => exact rfl); (case aB => exact (by repeat (first | (with_reducible first | exact HB.out | apply below_alloc | apply pw_below_drewN | apply below_drew1 | refine below_set ?_ GE128.out) | exact HB.out))); (case aF => exact (fun _ _ => trivial)); (case aO => exact (by (with_reducible repeat (first | apply Kd.R_alloc | apply Kd.R_drewN | apply Kd.R_drew)); exact HO_4.out)); (case aS => exact (below_size (by repeat (first | (with_reducible first | exact HB.out | apply below_alloc | apply pw_below_drewN | apply below_drew1 | refine below_set ?_ GE128.out) | exact HB.out)))); (case aL => have := LMc32.out; omega); intro v148 w40 ho hb hg hat; rw [← Ny147.out] at ho; have n0_ := Aside0.mk (Kd.R_over' (by (with_reducible repeat (first | apply Kd.R_alloc | apply Kd.R_drewN | apply Kd.R_drew)); exact HO_6.out) (Kd.R_typed (by (with_reducible repeat (first | apply Kd.R_alloc | apply Kd.R_drewN | apply Kd.R_drew)); exact HO_4.out)) (by decide) hg); have n1_ := Aside0.mk (blk_grown (g := gb128) (o := .cells #[.int .i64 x129000_1, .int .i64 x129001_1, .int .i64 x129002_1, .int .i64 x129003_1, .int .i64 x129004_1, .int .i64 x129005_1, .int .i64 x129006_1, .bool x129007_1, .int .i64 x129008_1, .int .i64 x129009_1] 25 (0, 0)) (by (with_reducible repeat (first | refine blk_drewN ?_ _ | refine blk_drew ?_ | refine blk_alloc ?_ _)); exact BK128.out) hg (Kd.R_ne HO_4.out BK128.out (by decide))); have n2_ := Aside0.mk (hb); have n3_ := Aside0.mk (ho); clear HO_6; clear BK128; clear HB; clear HO_4; have HO_6 := n0_; have BK128 := n1_; have HB := n2_; have HO149 := n3_; clear n0_ n1_ n2_ n3_; clear ho hb hg hat) | (go_at_call 13; (with_reducible refine (spec_l1In.calls t145 0 1 false _ A35.out).mono ?_); rintro e w' ⟨rfl, ⟨nd, rfl⟩⟩; (try (rw [drewN_self w40]; generalize hq_ : World.drewN w40 _ = w40; have n0_ : Aside0 (Kd.R (Kd.int .i64) 3 w40 w.heap.size (fun _ => True) v148 y147) := ⟨by rw [← hq_]; exact (by (with_reducible repeat (first | apply Kd.R_alloc | apply Kd.R_drewN | apply Kd.R_drew)); exact HO149.out)⟩; have n1_ : Aside0 (Kd.R Kd.string 9 w40 w.heap.size (fun _ => True) (.slice (some ad144) t133.length co39) t133) := ⟨by rw [← hq_]; exact (by (with_reducible repeat (first | apply Kd.R_alloc | apply Kd.R_drewN | apply Kd.R_drew)); exact HO_6.out)⟩; have n2_ : Aside0 (w40.heap[gb128]? = some (.cells #[.int .i64 x129000_1, .int .i64 x129001_1, .int .i64 x129002_1, .int .i64 x129003_1, .int .i64 x129004_1, .int .i64 x129005_1, .int .i64 x129006_1, .bool x129007_1, .int .i64 x129008_1, .int .i64 x129009_1] 25 (0, 0))) := ⟨by rw [← hq_]; exact (by (with_reducible repeat (first | refine blk_drewN ?_ _ | refine blk_drew ?_ | refine blk_alloc ?_ _)); exact BK128.out)⟩; have n3_ : Aside0 (Below w.heap.size w w40) := ⟨by rw [← hq_]; exact (by repeat (first | (with_reducible first | exact HB.out | apply below_alloc | apply pw_below_drewN | apply below_drew1 | refine below_set ?_ GE128.out) | exact HB.out))⟩; clear HO149 HO_6 BK128 HB hq_; have HO149 := n0_; have HO_6 := n1_; have BK128 := n2_; have HB := n3_; clear n0_ n1_ n2_ n3_)); have hcz41_0 : w40.cell? ⟨gb128, 0, none⟩ = some (.int .i64 x129000_1) := (blk_cell BK128.out 0).trans rfl; have hcz41_1 : w40.cell? ⟨gb128, 1, none⟩ = some (.int .i64 x129001_1) := (blk_cell BK128.out 1).trans rfl; have hcz41_2 : w40.cell? ⟨gb128, 2, none⟩ = some (.int .i64 x129002_1) := (blk_cell BK128.out 2).trans rfl; have hcz41_3 : w40.cell? ⟨gb128, 3, none⟩ = some (.int .i64 x129003_1) := (blk_cell BK128.out 3).trans rfl; have hcz41_4 : w40.cell? ⟨gb128, 4, none⟩ = some (.int .i64 x129004_1) := (blk_cell BK128.out 4).trans rfl; have hcz41_5 : w40.cell? ⟨gb128, 5, none⟩ = some (.int .i64 x129005_1) := (blk_cell BK128.out 5).trans rfl; have hcz41_6 : w40.cell? ⟨gb128, 6, none⟩ = some (.int .i64 x129006_1) := (blk_cell BK128.out 6).trans rfl; have hcz41_7 : w40.cell? ⟨gb128, 7, none⟩ = some (.bool x129007_1) := (blk_cell BK128.out 7).trans rfl; have hcz41_8 : w40.cell? ⟨gb128, 8, none⟩ = some (.int .i64 x129008_1) := (blk_cell BK128.out 8).trans rfl; have hcz41_9 : w40.cell? ⟨gb128, 9, none⟩ = some (.int .i64 x129009_1) := (blk_cell BK128.out 9).trans rfl; have hfz41_0 := blk_frozen BK128.out 0; have hfz41_1 := blk_frozen BK128.out 1; have hfz41_2 := blk_frozen BK128.out 2; have hfz41_3 := blk_frozen BK128.out 3; have hfz41_4 := blk_frozen BK128.out 4; have hfz41_5 := blk_frozen BK128.out 5; have hfz41_6 := blk_frozen BK128.out 6; have hfz41_7 := blk_frozen BK128.out 7; have hfz41_8 := blk_frozen BK128.out 8; have hfz41_9 := blk_frozen BK128.out 9))
                          refine bodyPost_ret (results_ct rfl _ _ gb128 25 #[.int .i64 0, .int .i64 0, .int .i64 0, .int .i64 0, .int .i64 0, .int .i64 0, .int .i64 0, .bool false, .int .i64 0, .int .i64 0] (0, 0) _ rfl (by (with_reducible repeat (first | refine blk_drewN ?_ _ | refine blk_drew ?_ | refine blk_alloc ?_ _)); refine blk_put (cs := #[.int .i64 0, .int .i64 0, .int .i64 0, .int .i64 0, .int .i64 0, .int .i64 0, .int .i64 0, .bool false, .int .i64 0, .int .i64 x129009_1]) ?_ 9 _ rfl; (with_reducible repeat (first | refine blk_drewN ?_ _ | refine blk_drew ?_ | refine blk_alloc ?_ _)); refine blk_put (cs := #[.int .i64 0, .int .i64 0, .int .i64 0, .int .i64 0, .int .i64 0, .int .i64 0, .int .i64 0, .bool false, .int .i64 x129008_1, .int .i64 x129009_1]) ?_ 8 _ rfl; (with_reducible repeat (first | refine blk_drewN ?_ _ | refine blk_drew ?_ | refine blk_alloc ?_ _)); refine blk_put (cs := #[.int .i64 0, .int .i64 0, .int .i64 0, .int .i64 0, .int .i64 0, .int .i64 0, .int .i64 0, .bool x129007_1, .int .i64 x129008_1, .int .i64 x129009_1]) ?_ 7 _ rfl; (with_reducible repeat (first | refine blk_drewN ?_ _ | refine blk_drew ?_ | refine blk_alloc ?_ _)); refine blk_put (cs := #[.int .i64 0, .int .i64 0, .int .i64 0, .int .i64 0, .int .i64 0, .int .i64 0, .int .i64 x129006_1, .bool x129007_1, .int .i64 x129008_1, .int .i64 x129009_1]) ?_ 6 _ rfl; (with_reducible repeat (first | refine blk_drewN ?_ _ | refine blk_drew ?_ | refine blk_alloc ?_ _)); refine blk_put (cs := #[.int .i64 0, .int .i64 0, .int .i64 0, .int .i64 0, .int .i64 0, .int .i64 x129005_1, .int .i64 x129006_1, .bool x129007_1, .int .i64 x129008_1, .int .i64 x129009_1]) ?_ 5 _ rfl; (with_reducible repeat (first | refine blk_drewN ?_ _ | refine blk_drew ?_ | refine blk_alloc ?_ _)); refine blk_put (cs := #[.int .i64 0, .int .i64 0, .int .i64 0, .int .i64 0, .int .i64 x129004_1, .int .i64 x129005_1, .int .i64 x129006_1, .bool x129007_1, .int .i64 x129008_1, .int .i64 x129009_1]) ?_ 4 _ rfl; (with_reducible repeat (first | refine blk_drewN ?_ _ | refine blk_drew ?_ | refine blk_alloc ?_ _)); refine blk_put (cs := #[.int .i64 0, .int .i64 0, .int .i64 0, .int .i64 x129003_1, .int .i64 x129004_1, .int .i64 x129005_1, .int .i64 x129006_1, .bool x129007_1, .int .i64 x129008_1, .int .i64 x129009_1]) ?_ 3 _ rfl; (with_reducible repeat (first | refine blk_drewN ?_ _ | refine blk_drew ?_ | refine blk_alloc ?_ _)); refine blk_put (cs := #[.int .i64 0, .int .i64 0, .int .i64 x129002_1, .int .i64 x129003_1, .int .i64 x129004_1, .int .i64 x129005_1, .int .i64 x129006_1, .bool x129007_1, .int .i64 x129008_1, .int .i64 x129009_1]) ?_ 2 _ rfl; (with_reducible repeat (first | refine blk_drewN ?_ _ | refine blk_drew ?_ | refine blk_alloc ?_ _)); refine blk_put (cs := #[.int .i64 0, .int .i64 x129001_1, .int .i64 x129002_1, .int .i64 x129003_1, .int .i64 x129004_1, .int .i64 x129005_1, .int .i64 x129006_1, .bool x129007_1, .int .i64 x129008_1, .int .i64 x129009_1]) ?_ 1 _ rfl; (with_reducible repeat (first | refine blk_drewN ?_ _ | refine blk_drew ?_ | refine blk_alloc ?_ _)); refine blk_put (cs := #[.int .i64 x129000_1, .int .i64 x129001_1, .int .i64 x129002_1, .int .i64 x129003_1, .int .i64 x129004_1, .int .i64 x129005_1, .int .i64 x129006_1, .bool x129007_1, .int .i64 x129008_1, .int .i64 x129009_1]) ?_ 0 _ rfl; (with_reducible repeat (first | refine blk_drewN ?_ _ | refine blk_drew ?_ | refine blk_alloc ?_ _)); exact BK128.out) Tryd.underlying25 rfl (by kernel_rfl)) rfl ?_
                          exact ⟨by first | rfl | (simp [errW_none, errW_some] <;> rfl) | (simp [*, errW_none, errW_some] <;> rfl), by repeat (first | (with_reducible first | exact HB.out | apply below_alloc | apply pw_below_drewN | apply below_drew1 | refine below_set ?_ GE128.out) | exact HB.out)⟩
                      · rw [if_neg c34] at H
                        have c34b0 : (x5_1 == 7) = false := beq_eq_false_iff_ne.mpr c34
                        have c34b1 : (x5_1 != 7) = true := bne_iff_ne.mpr c34
                        have H' := Aside0.mk H
                        clear H
                        obtain ⟨Ao42, co42, eo42⟩ := Kd.R_slice HO_6.out
                        subst eo42
                        have p144 : 0 ≤ (1 : Int) := (by omega)
                        have q144 : 1 < (t133.length : Int) := of_decide_eq_true (by first | (with_reducible assumption) | assumption)
                        obtain ⟨ad144, e144, hx144_0⟩ := Kd.at_string (Kd.R_reads' HO_6.out).2.2 1 p144 q144
                        cases e144
                        (try simp only [show (1 : Int).toNat = 1 from rfl, Nat.reduceMul, Nat.reduceEqDiff, Go.Addr.add, ↓reduceIte] at hx144_0)
                        have qi144 : (1 < t133.length) = True := eq_true (by omega)
                        (try rw [show ((1 : Int)).toNat = 1 from rfl] at hx144_0)
                        replace p144 := eq_true p144
                        replace q144 := eq_true q144
                        go_wp2_with (first | ((with_reducible refine gate_callee (f := 12) rfl ?_); refine goesL_ (some 47) rfl rfl Tryd.func12 (by kernel_rfl) rfl #[.string (rdOf ByteArray.empty t133 1)] rfl (by (try simp only [List.map_toArray, List.map_cons, List.map_nil]); first | done | rfl | (simp only [List.length_drop, List.length_take]; rfl)) ?_; (with_reducible refine (spec_l1Number.calls kj7 (rdOf ByteArray.empty t133 1) t145 true _ A31.out).mono ?_); rintro e w' ⟨rfl, ⟨nd, rfl⟩⟩; refine ⟨_, rfl, ?_⟩) | ((with_reducible refine gate_builtin (b := .append) (xs := #[.tmp 50, .tmp 52]) rfl ?_); (try (refine gate_guard (by rfl) ?_; dsimp only)); at_builtin; refine Kd.R_append (Kd.int .i64) (w0 := w) w.heap.size rfl (.tmp 50) (.tmp 52) 32 3 (.int .i64 0) 8 rfl Tryd.underlying32 info3 rfl (by decide) (by omega) u4 x4_1 t145 [.int .i64 t145] (fun _ => True) (fun _ => False) rfl rfl ?aP (fun _ hk => hk.elim) ?aF ?aO ?aB ?aS ?aL ?_; (case aP => exact rfl); (case aB => exact (by repeat (first | (with_reducible first | exact HB.out | apply below_alloc | apply pw_below_drewN | apply below_drew1 | refine below_set ?_ GE128.out) | exact HB.out))); (case aF => exact (fun _ _ => trivial)); (case aO => exact (by (with_reducible repeat (first | apply Kd.R_alloc | apply Kd.R_drewN | apply Kd.R_drew)); exact HO_4.out)); (case aS => exact (below_size (by repeat (first | (with_reducible first | exact HB.out | apply below_alloc | apply pw_below_drewN | apply below_drew1 | refine below_set ?_ GE128.out) | exact HB.out)))); (case aL => have := LMc32.out; omega); intro v148 w43 ho hb hg hat; rw [← Ny147.out] at ho; have n0_ := Aside0.mk (Kd.R_over' (by (with_reducible repeat (first | apply Kd.R_alloc | apply Kd.R_drewN | apply Kd.R_drew)); exact HO_6.out) (Kd.R_typed (by (with_reducible repeat (first | apply Kd.R_alloc | apply Kd.R_drewN | apply Kd.R_drew)); exact HO_4.out)) (by decide) hg); have n1_ := Aside0.mk (blk_grown (g := gb128) (o := .cells #[.int .i64 x129000_1, .int .i64 x129001_1, .int .i64 x129002_1, .int .i64 x129003_1, .int .i64 x129004_1, .int .i64 x129005_1, .int .i64 x129006_1, .bool x129007_1, .int .i64 x129008_1, .int .i64 x129009_1] 25 (0, 0)) (by (with_reducible repeat (first | refine blk_drewN ?_ _ | refine blk_drew ?_ | refine blk_alloc ?_ _)); exact BK128.out) hg (Kd.R_ne HO_4.out BK128.out (by decide))); have n2_ := Aside0.mk (hb); have n3_ := Aside0.mk (ho); clear HO_6; clear BK128; clear HB; clear HO_4; have HO_6 := n0_; have BK128 := n1_; have HB := n2_; have HO149 := n3_; clear n0_ n1_ n2_ n3_; clear ho hb hg hat))
                        go_roundg kj7
                        case measure => have := HK1.out; have := HJ7.out; omega
                        case rel => exact ⟨(y147), (wrap64 (x5_1 + 1)), (x129000_1), (x129001_1), (x129002_1), (x129003_1), (x129004_1), (x129005_1), (x129006_1), (x129007_1), (x129008_1), (x129009_1), (by first | rfl | (simp; done) | (simp [*]; done)), H', ⟨by have := HK1.out; have := HJ7.out; omega⟩, ⟨by (with_reducible repeat (first | apply Kd.R_alloc | apply Kd.R_drewN | apply Kd.R_drew)); exact HO149.out⟩, ⟨by (with_reducible repeat (first | refine blk_drewN ?_ _ | refine blk_drew ?_ | refine blk_alloc ?_ _)); exact BK128.out⟩, ⟨by repeat (first | (with_reducible first | exact HB.out | apply below_alloc | apply pw_below_drewN | apply below_drew1 | refine below_set ?_ GE128.out) | exact HB.out)⟩⟩
                    · replace c33 := Bool.eq_false_iff.mpr c33
                      subst c33
                      have H1 : (some (0, 0, 0, 0, 0, 0, 0, false, 0, 0, wrap64 (x5_1 + 1))) = some (r1, r2, r3, r4, r5, r6, r7, r8, r9, r10, r11) := by rw [if_neg (show ¬ (false = true) by decide)] at H; exact H
                      clear H
                      have H := H1
                      clear H1
                      simp only [Option.some.injEq, Prod.mk.injEq] at H
                      obtain ⟨rfl, rfl, rfl, rfl, rfl, rfl, rfl, rfl, rfl, rfl, rfl⟩ := H
                      obtain ⟨Ao44, co44, eo44⟩ := Kd.R_slice HO_6.out
                      subst eo44
                      have p144 : 0 ≤ (1 : Int) := (by omega)
                      have q144 : 1 < (t133.length : Int) := of_decide_eq_true (by first | (with_reducible assumption) | assumption)
                      obtain ⟨ad144, e144, hx144_0⟩ := Kd.at_string (Kd.R_reads' HO_6.out).2.2 1 p144 q144
                      cases e144
                      (try simp only [show (1 : Int).toNat = 1 from rfl, Nat.reduceMul, Nat.reduceEqDiff, Go.Addr.add, ↓reduceIte] at hx144_0)
                      have qi144 : (1 < t133.length) = True := eq_true (by omega)
                      (try rw [show ((1 : Int)).toNat = 1 from rfl] at hx144_0)
                      replace p144 := eq_true p144
                      replace q144 := eq_true q144
                      go_wp2_with (first | ((with_reducible refine gate_callee (f := 12) rfl ?_); refine goesL_ (some 47) rfl rfl Tryd.func12 (by kernel_rfl) rfl #[.string (rdOf ByteArray.empty t133 1)] rfl (by (try simp only [List.map_toArray, List.map_cons, List.map_nil]); first | done | rfl | (simp only [List.length_drop, List.length_take]; rfl)) ?_; (with_reducible refine (spec_l1Number.calls kj7 (rdOf ByteArray.empty t133 1) t145 false _ A31.out).mono ?_); rintro e w' ⟨rfl, ⟨nd, rfl⟩⟩; refine ⟨_, rfl, ?_⟩; (try (rw [drewN_self wc]; generalize hq_ : World.drewN wc _ = wc; have n0_ : Aside0 (Kd.R (Kd.int .i64) 3 wc w.heap.size (fun _ => True) u4 x4_1) := ⟨by rw [← hq_]; exact (by (with_reducible repeat (first | apply Kd.R_alloc | apply Kd.R_drewN | apply Kd.R_drew)); exact HO_4.out)⟩; have n1_ : Aside0 (Kd.R Kd.string 9 wc w.heap.size (fun _ => True) (.slice (some ad144) t133.length co44) t133) := ⟨by rw [← hq_]; exact (by (with_reducible repeat (first | apply Kd.R_alloc | apply Kd.R_drewN | apply Kd.R_drew)); exact HO_6.out)⟩; have n2_ : Aside0 (wc.heap[gb128]? = some (.cells #[.int .i64 x129000_1, .int .i64 x129001_1, .int .i64 x129002_1, .int .i64 x129003_1, .int .i64 x129004_1, .int .i64 x129005_1, .int .i64 x129006_1, .bool x129007_1, .int .i64 x129008_1, .int .i64 x129009_1] 25 (0, 0))) := ⟨by rw [← hq_]; exact (by (with_reducible repeat (first | refine blk_drewN ?_ _ | refine blk_drew ?_ | refine blk_alloc ?_ _)); exact BK128.out)⟩; have n3_ : Aside0 (Below w.heap.size w wc) := ⟨by rw [← hq_]; exact (by repeat (first | (with_reducible first | exact HB.out | apply below_alloc | apply pw_below_drewN | apply below_drew1 | refine below_set ?_ GE128.out) | exact HB.out))⟩; clear HO_4 HO_6 BK128 HB hq_; have HO_4 := n0_; have HO_6 := n1_; have BK128 := n2_; have HB := n3_; clear n0_ n1_ n2_ n3_))) | ((with_reducible refine gate_builtin (b := .append) (xs := #[.tmp 50, .tmp 52]) rfl ?_); (try (refine gate_guard (by rfl) ?_; dsimp only)); at_builtin; refine Kd.R_append (Kd.int .i64) (w0 := w) w.heap.size rfl (.tmp 50) (.tmp 52) 32 3 (.int .i64 0) 8 rfl Tryd.underlying32 info3 rfl (by decide) (by omega) u4 x4_1 t145 [.int .i64 t145] (fun _ => True) (fun _ => False) rfl rfl ?aP (fun _ hk => hk.elim) ?aF ?aO ?aB ?aS ?aL ?_; (case aP => exact rfl); (case aB => exact (by repeat (first | (with_reducible first | exact HB.out | apply below_alloc | apply pw_below_drewN | apply below_drew1 | refine below_set ?_ GE128.out) | exact HB.out))); (case aF => exact (fun _ _ => trivial)); (case aO => exact (by (with_reducible repeat (first | apply Kd.R_alloc | apply Kd.R_drewN | apply Kd.R_drew)); exact HO_4.out)); (case aS => exact (below_size (by repeat (first | (with_reducible first | exact HB.out | apply below_alloc | apply pw_below_drewN | apply below_drew1 | refine below_set ?_ GE128.out) | exact HB.out)))); (case aL => have := LMc32.out; omega); intro v148 w45 ho hb hg hat; rw [← Ny147.out] at ho; have n0_ := Aside0.mk (Kd.R_over' (by (with_reducible repeat (first | apply Kd.R_alloc | apply Kd.R_drewN | apply Kd.R_drew)); exact HO_6.out) (Kd.R_typed (by (with_reducible repeat (first | apply Kd.R_alloc | apply Kd.R_drewN | apply Kd.R_drew)); exact HO_4.out)) (by decide) hg); have n1_ := Aside0.mk (blk_grown (g := gb128) (o := .cells #[.int .i64 x129000_1, .int .i64 x129001_1, .int .i64 x129002_1, .int .i64 x129003_1, .int .i64 x129004_1, .int .i64 x129005_1, .int .i64 x129006_1, .bool x129007_1, .int .i64 x129008_1, .int .i64 x129009_1] 25 (0, 0)) (by (with_reducible repeat (first | refine blk_drewN ?_ _ | refine blk_drew ?_ | refine blk_alloc ?_ _)); exact BK128.out) hg (Kd.R_ne HO_4.out BK128.out (by decide))); have n2_ := Aside0.mk (hb); have n3_ := Aside0.mk (ho); clear HO_6; clear BK128; clear HB; clear HO_4; have HO_6 := n0_; have BK128 := n1_; have HB := n2_; have HO149 := n3_; clear n0_ n1_ n2_ n3_; clear ho hb hg hat; have hcz46_0 : w45.cell? ⟨gb128, 0, none⟩ = some (.int .i64 x129000_1) := (blk_cell BK128.out 0).trans rfl; have hcz46_1 : w45.cell? ⟨gb128, 1, none⟩ = some (.int .i64 x129001_1) := (blk_cell BK128.out 1).trans rfl; have hcz46_2 : w45.cell? ⟨gb128, 2, none⟩ = some (.int .i64 x129002_1) := (blk_cell BK128.out 2).trans rfl; have hcz46_3 : w45.cell? ⟨gb128, 3, none⟩ = some (.int .i64 x129003_1) := (blk_cell BK128.out 3).trans rfl; have hcz46_4 : w45.cell? ⟨gb128, 4, none⟩ = some (.int .i64 x129004_1) := (blk_cell BK128.out 4).trans rfl; have hcz46_5 : w45.cell? ⟨gb128, 5, none⟩ = some (.int .i64 x129005_1) := (blk_cell BK128.out 5).trans rfl; have hcz46_6 : w45.cell? ⟨gb128, 6, none⟩ = some (.int .i64 x129006_1) := (blk_cell BK128.out 6).trans rfl; have hcz46_7 : w45.cell? ⟨gb128, 7, none⟩ = some (.bool x129007_1) := (blk_cell BK128.out 7).trans rfl; have hcz46_8 : w45.cell? ⟨gb128, 8, none⟩ = some (.int .i64 x129008_1) := (blk_cell BK128.out 8).trans rfl; have hcz46_9 : w45.cell? ⟨gb128, 9, none⟩ = some (.int .i64 x129009_1) := (blk_cell BK128.out 9).trans rfl; have hfz46_0 := blk_frozen BK128.out 0; have hfz46_1 := blk_frozen BK128.out 1; have hfz46_2 := blk_frozen BK128.out 2; have hfz46_3 := blk_frozen BK128.out 3; have hfz46_4 := blk_frozen BK128.out 4; have hfz46_5 := blk_frozen BK128.out 5; have hfz46_6 := blk_frozen BK128.out 6; have hfz46_7 := blk_frozen BK128.out 7; have hfz46_8 := blk_frozen BK128.out 8; have hfz46_9 := blk_frozen BK128.out 9))
                      refine bodyPost_ret (results_ct rfl _ _ gb128 25 #[.int .i64 0, .int .i64 0, .int .i64 0, .int .i64 0, .int .i64 0, .int .i64 0, .int .i64 0, .bool false, .int .i64 0, .int .i64 0] (0, 0) _ rfl (by (with_reducible repeat (first | refine blk_drewN ?_ _ | refine blk_drew ?_ | refine blk_alloc ?_ _)); refine blk_put (cs := #[.int .i64 0, .int .i64 0, .int .i64 0, .int .i64 0, .int .i64 0, .int .i64 0, .int .i64 0, .bool false, .int .i64 0, .int .i64 x129009_1]) ?_ 9 _ rfl; (with_reducible repeat (first | refine blk_drewN ?_ _ | refine blk_drew ?_ | refine blk_alloc ?_ _)); refine blk_put (cs := #[.int .i64 0, .int .i64 0, .int .i64 0, .int .i64 0, .int .i64 0, .int .i64 0, .int .i64 0, .bool false, .int .i64 x129008_1, .int .i64 x129009_1]) ?_ 8 _ rfl; (with_reducible repeat (first | refine blk_drewN ?_ _ | refine blk_drew ?_ | refine blk_alloc ?_ _)); refine blk_put (cs := #[.int .i64 0, .int .i64 0, .int .i64 0, .int .i64 0, .int .i64 0, .int .i64 0, .int .i64 0, .bool x129007_1, .int .i64 x129008_1, .int .i64 x129009_1]) ?_ 7 _ rfl; (with_reducible repeat (first | refine blk_drewN ?_ _ | refine blk_drew ?_ | refine blk_alloc ?_ _)); refine blk_put (cs := #[.int .i64 0, .int .i64 0, .int .i64 0, .int .i64 0, .int .i64 0, .int .i64 0, .int .i64 x129006_1, .bool x129007_1, .int .i64 x129008_1, .int .i64 x129009_1]) ?_ 6 _ rfl; (with_reducible repeat (first | refine blk_drewN ?_ _ | refine blk_drew ?_ | refine blk_alloc ?_ _)); refine blk_put (cs := #[.int .i64 0, .int .i64 0, .int .i64 0, .int .i64 0, .int .i64 0, .int .i64 x129005_1, .int .i64 x129006_1, .bool x129007_1, .int .i64 x129008_1, .int .i64 x129009_1]) ?_ 5 _ rfl; (with_reducible repeat (first | refine blk_drewN ?_ _ | refine blk_drew ?_ | refine blk_alloc ?_ _)); refine blk_put (cs := #[.int .i64 0, .int .i64 0, .int .i64 0, .int .i64 0, .int .i64 x129004_1, .int .i64 x129005_1, .int .i64 x129006_1, .bool x129007_1, .int .i64 x129008_1, .int .i64 x129009_1]) ?_ 4 _ rfl; (with_reducible repeat (first | refine blk_drewN ?_ _ | refine blk_drew ?_ | refine blk_alloc ?_ _)); refine blk_put (cs := #[.int .i64 0, .int .i64 0, .int .i64 0, .int .i64 x129003_1, .int .i64 x129004_1, .int .i64 x129005_1, .int .i64 x129006_1, .bool x129007_1, .int .i64 x129008_1, .int .i64 x129009_1]) ?_ 3 _ rfl; (with_reducible repeat (first | refine blk_drewN ?_ _ | refine blk_drew ?_ | refine blk_alloc ?_ _)); refine blk_put (cs := #[.int .i64 0, .int .i64 0, .int .i64 x129002_1, .int .i64 x129003_1, .int .i64 x129004_1, .int .i64 x129005_1, .int .i64 x129006_1, .bool x129007_1, .int .i64 x129008_1, .int .i64 x129009_1]) ?_ 2 _ rfl; (with_reducible repeat (first | refine blk_drewN ?_ _ | refine blk_drew ?_ | refine blk_alloc ?_ _)); refine blk_put (cs := #[.int .i64 0, .int .i64 x129001_1, .int .i64 x129002_1, .int .i64 x129003_1, .int .i64 x129004_1, .int .i64 x129005_1, .int .i64 x129006_1, .bool x129007_1, .int .i64 x129008_1, .int .i64 x129009_1]) ?_ 1 _ rfl; (with_reducible repeat (first | refine blk_drewN ?_ _ | refine blk_drew ?_ | refine blk_alloc ?_ _)); refine blk_put (cs := #[.int .i64 x129000_1, .int .i64 x129001_1, .int .i64 x129002_1, .int .i64 x129003_1, .int .i64 x129004_1, .int .i64 x129005_1, .int .i64 x129006_1, .bool x129007_1, .int .i64 x129008_1, .int .i64 x129009_1]) ?_ 0 _ rfl; (with_reducible repeat (first | refine blk_drewN ?_ _ | refine blk_drew ?_ | refine blk_alloc ?_ _)); exact BK128.out) Tryd.underlying25 rfl (by kernel_rfl)) rfl ?_
                      exact ⟨by first | rfl | (simp [errW_none, errW_some] <;> rfl) | (simp [*, errW_none, errW_some] <;> rfl), by repeat (first | (with_reducible first | exact HB.out | apply below_alloc | apply pw_below_drewN | apply below_drew1 | refine below_set ?_ GE128.out) | exact HB.out)⟩
                  · rw [if_neg c32] at H
                    exact absurd H (by simp)
                · rw [if_neg c30] at H
                  exact absurd H (by simp)
              · replace c29 := Bool.eq_false_iff.mpr c29
                subst c29
                have H1 : (some (0, 0, 0, 0, 0, 0, 0, false, 0, 0, wrap64 (x5_1 + 1))) = some (r1, r2, r3, r4, r5, r6, r7, r8, r9, r10, r11) := by rw [if_neg (show ¬ (false = true) by decide)] at H; exact H
                clear H
                have H := H1
                clear H1
                simp only [Option.some.injEq, Prod.mk.injEq] at H
                obtain ⟨rfl, rfl, rfl, rfl, rfl, rfl, rfl, rfl, rfl, rfl, rfl⟩ := H
                have hcz47_0 : wc.cell? ⟨gb128, 0, none⟩ = some (.int .i64 x129000_1) := (blk_cell BK128.out 0).trans rfl
                have hcz47_1 : wc.cell? ⟨gb128, 1, none⟩ = some (.int .i64 x129001_1) := (blk_cell BK128.out 1).trans rfl
                have hcz47_2 : wc.cell? ⟨gb128, 2, none⟩ = some (.int .i64 x129002_1) := (blk_cell BK128.out 2).trans rfl
                have hcz47_3 : wc.cell? ⟨gb128, 3, none⟩ = some (.int .i64 x129003_1) := (blk_cell BK128.out 3).trans rfl
                have hcz47_4 : wc.cell? ⟨gb128, 4, none⟩ = some (.int .i64 x129004_1) := (blk_cell BK128.out 4).trans rfl
                have hcz47_5 : wc.cell? ⟨gb128, 5, none⟩ = some (.int .i64 x129005_1) := (blk_cell BK128.out 5).trans rfl
                have hcz47_6 : wc.cell? ⟨gb128, 6, none⟩ = some (.int .i64 x129006_1) := (blk_cell BK128.out 6).trans rfl
                have hcz47_7 : wc.cell? ⟨gb128, 7, none⟩ = some (.bool x129007_1) := (blk_cell BK128.out 7).trans rfl
                have hcz47_8 : wc.cell? ⟨gb128, 8, none⟩ = some (.int .i64 x129008_1) := (blk_cell BK128.out 8).trans rfl
                have hcz47_9 : wc.cell? ⟨gb128, 9, none⟩ = some (.int .i64 x129009_1) := (blk_cell BK128.out 9).trans rfl
                have hfz47_0 := blk_frozen BK128.out 0
                have hfz47_1 := blk_frozen BK128.out 1
                have hfz47_2 := blk_frozen BK128.out 2
                have hfz47_3 := blk_frozen BK128.out 3
                have hfz47_4 := blk_frozen BK128.out 4
                have hfz47_5 := blk_frozen BK128.out 5
                have hfz47_6 := blk_frozen BK128.out 6
                have hfz47_7 := blk_frozen BK128.out 7
                have hfz47_8 := blk_frozen BK128.out 8
                have hfz47_9 := blk_frozen BK128.out 9
                go_wp2
                refine bodyPost_ret (results_ct rfl _ _ gb128 25 #[.int .i64 0, .int .i64 0, .int .i64 0, .int .i64 0, .int .i64 0, .int .i64 0, .int .i64 0, .bool false, .int .i64 0, .int .i64 0] (0, 0) _ rfl (by (with_reducible repeat (first | refine blk_drewN ?_ _ | refine blk_drew ?_ | refine blk_alloc ?_ _)); refine blk_put (cs := #[.int .i64 0, .int .i64 0, .int .i64 0, .int .i64 0, .int .i64 0, .int .i64 0, .int .i64 0, .bool false, .int .i64 0, .int .i64 x129009_1]) ?_ 9 _ rfl; (with_reducible repeat (first | refine blk_drewN ?_ _ | refine blk_drew ?_ | refine blk_alloc ?_ _)); refine blk_put (cs := #[.int .i64 0, .int .i64 0, .int .i64 0, .int .i64 0, .int .i64 0, .int .i64 0, .int .i64 0, .bool false, .int .i64 x129008_1, .int .i64 x129009_1]) ?_ 8 _ rfl; (with_reducible repeat (first | refine blk_drewN ?_ _ | refine blk_drew ?_ | refine blk_alloc ?_ _)); refine blk_put (cs := #[.int .i64 0, .int .i64 0, .int .i64 0, .int .i64 0, .int .i64 0, .int .i64 0, .int .i64 0, .bool x129007_1, .int .i64 x129008_1, .int .i64 x129009_1]) ?_ 7 _ rfl; (with_reducible repeat (first | refine blk_drewN ?_ _ | refine blk_drew ?_ | refine blk_alloc ?_ _)); refine blk_put (cs := #[.int .i64 0, .int .i64 0, .int .i64 0, .int .i64 0, .int .i64 0, .int .i64 0, .int .i64 x129006_1, .bool x129007_1, .int .i64 x129008_1, .int .i64 x129009_1]) ?_ 6 _ rfl; (with_reducible repeat (first | refine blk_drewN ?_ _ | refine blk_drew ?_ | refine blk_alloc ?_ _)); refine blk_put (cs := #[.int .i64 0, .int .i64 0, .int .i64 0, .int .i64 0, .int .i64 0, .int .i64 x129005_1, .int .i64 x129006_1, .bool x129007_1, .int .i64 x129008_1, .int .i64 x129009_1]) ?_ 5 _ rfl; (with_reducible repeat (first | refine blk_drewN ?_ _ | refine blk_drew ?_ | refine blk_alloc ?_ _)); refine blk_put (cs := #[.int .i64 0, .int .i64 0, .int .i64 0, .int .i64 0, .int .i64 x129004_1, .int .i64 x129005_1, .int .i64 x129006_1, .bool x129007_1, .int .i64 x129008_1, .int .i64 x129009_1]) ?_ 4 _ rfl; (with_reducible repeat (first | refine blk_drewN ?_ _ | refine blk_drew ?_ | refine blk_alloc ?_ _)); refine blk_put (cs := #[.int .i64 0, .int .i64 0, .int .i64 0, .int .i64 x129003_1, .int .i64 x129004_1, .int .i64 x129005_1, .int .i64 x129006_1, .bool x129007_1, .int .i64 x129008_1, .int .i64 x129009_1]) ?_ 3 _ rfl; (with_reducible repeat (first | refine blk_drewN ?_ _ | refine blk_drew ?_ | refine blk_alloc ?_ _)); refine blk_put (cs := #[.int .i64 0, .int .i64 0, .int .i64 x129002_1, .int .i64 x129003_1, .int .i64 x129004_1, .int .i64 x129005_1, .int .i64 x129006_1, .bool x129007_1, .int .i64 x129008_1, .int .i64 x129009_1]) ?_ 2 _ rfl; (with_reducible repeat (first | refine blk_drewN ?_ _ | refine blk_drew ?_ | refine blk_alloc ?_ _)); refine blk_put (cs := #[.int .i64 0, .int .i64 x129001_1, .int .i64 x129002_1, .int .i64 x129003_1, .int .i64 x129004_1, .int .i64 x129005_1, .int .i64 x129006_1, .bool x129007_1, .int .i64 x129008_1, .int .i64 x129009_1]) ?_ 1 _ rfl; (with_reducible repeat (first | refine blk_drewN ?_ _ | refine blk_drew ?_ | refine blk_alloc ?_ _)); refine blk_put (cs := #[.int .i64 x129000_1, .int .i64 x129001_1, .int .i64 x129002_1, .int .i64 x129003_1, .int .i64 x129004_1, .int .i64 x129005_1, .int .i64 x129006_1, .bool x129007_1, .int .i64 x129008_1, .int .i64 x129009_1]) ?_ 0 _ rfl; (with_reducible repeat (first | refine blk_drewN ?_ _ | refine blk_drew ?_ | refine blk_alloc ?_ _)); exact BK128.out) Tryd.underlying25 rfl (by kernel_rfl)) rfl ?_
                exact ⟨by first | rfl | (simp [errW_none, errW_some] <;> rfl) | (simp [*, errW_none, errW_some] <;> rfl), by repeat (first | (with_reducible first | exact HB.out | apply below_alloc | apply pw_below_drewN | apply below_drew1 | refine below_set ?_ GE128.out) | exact HB.out)⟩
        · rw [if_neg c6] at H
          exact absurd H (by simp)
      · rw [if_neg c5] at H
        have c5b0 : decide (x5_1 < (l0.length : Int)) = false := decide_eq_false c5
        clear c5
        replace H := Option.bind_eq_some_iff.mp H
        obtain ⟨t151, A480, H⟩ := H
        replace H : (if (x4_1.length : Int) < (t151.length : Int) then (some (0, 0, 0, 0, 0, 0, 0, false, 0, 0, wrap64 ((l0.length : Int) + 1))) else (if 0 < (x4_1.length : Int) then (if 1 < (x4_1.length : Int) then (if 2 < (x4_1.length : Int) then (if 3 < (x4_1.length : Int) then (if 4 < (x4_1.length : Int) then (if 5 < (x4_1.length : Int) then (if 6 < (x4_1.length : Int) then (if 7 < (x4_1.length : Int) then (if 8 < (x4_1.length : Int) then (if 9 < (x4_1.length : Int) then ((spec_JobOk.f k1 (rd x4_1 0) (rd x4_1 1) (rd x4_1 2) (rd x4_1 3) (rd x4_1 4) (rd x4_1 5) (rd x4_1 6) ((rd x4_1 7) == 1) (rd x4_1 8) (rd x4_1 9)).bind fun t165 => (if t165 = true then (some (rd x4_1 0, rd x4_1 1, rd x4_1 2, rd x4_1 3, rd x4_1 4, rd x4_1 5, rd x4_1 6, ((rd x4_1 7) == 1), rd x4_1 8, rd x4_1 9, 0)) else (some (0, 0, 0, 0, 0, 0, 0, false, 0, 0, wrap64 ((l0.length : Int) + 1))))) else (none)) else (none)) else (none)) else (none)) else (none)) else (none)) else (none)) else (none)) else (none)) else (none))) = some (r1, r2, r3, r4, r5, r6, r7, r8, r9, r10, r11) := H
        have A48 := Aside0.mk A480
        clear A480
        by_cases c49 : (x4_1.length : Int) < (t151.length : Int)
        · rw [if_pos c49] at H
          have c49b0 : decide ((x4_1.length : Int) < (t151.length : Int)) = true := decide_eq_true c49
          have c49b1 : decide (x4_1.length < t151.length) = true := decide_eq_true (Int.ofNat_lt.mp c49)
          clear c49
          simp only [Option.some.injEq, Prod.mk.injEq] at H
          obtain ⟨rfl, rfl, rfl, rfl, rfl, rfl, rfl, rfl, rfl, rfl, rfl⟩ := H
          obtain ⟨Ao50, co50, eo50⟩ := Kd.R_slice HO_4.out
          subst eo50
          go_wp2_with (first | ((with_reducible refine gate_callee (f := 11) rfl ?_); refine goesL_ (some 70) rfl rfl Tryd.func11 (by kernel_rfl) rfl #[] rfl (by (try simp only [List.map_toArray, List.map_cons, List.map_nil]); first | done | rfl | (simp only [List.length_drop, List.length_take]; rfl)) ?_; (with_reducible refine (spec_l4Names.calls  t151 _ A48.out).mono ?_); rintro e w51 ⟨v152, rfl, ho0, hb⟩; refine ⟨_, rfl, ?_⟩; have n0_ := Aside0.mk (Kd.R_below (by (with_reducible repeat (first | apply Kd.R_alloc | apply Kd.R_drewN | apply Kd.R_drew)); exact HO_4.out) hb); have n1_ := Aside0.mk (Kd.R_lower ho0 (below_size (by repeat (first | (with_reducible first | exact HB.out | apply below_alloc | apply pw_below_drewN | apply below_drew1 | refine below_set ?_ GE128.out) | exact HB.out)))); have n2_ := Aside0.mk (blk_below (g := gb128) (o := .cells #[.int .i64 x129000_1, .int .i64 x129001_1, .int .i64 x129002_1, .int .i64 x129003_1, .int .i64 x129004_1, .int .i64 x129005_1, .int .i64 x129006_1, .bool x129007_1, .int .i64 x129008_1, .int .i64 x129009_1] 25 (0, 0)) (by (with_reducible repeat (first | refine blk_drewN ?_ _ | refine blk_drew ?_ | refine blk_alloc ?_ _)); exact BK128.out) hb); have n3_ := Aside0.mk (below_step (by repeat (first | (with_reducible first | exact HB.out | apply below_alloc | apply pw_below_drewN | apply below_drew1 | refine below_set ?_ GE128.out) | exact HB.out)) hb); clear HO_4; clear BK128; clear HB; have HO_4 := n0_; have HO153 := n1_; have BK128 := n2_; have HB := n3_; clear n0_ n1_ n2_ n3_; (try clear hb); (try clear hb2); (try clear hk); (try clear hi); (try clear ho0); obtain ⟨Ao52, co52, eo52⟩ := Kd.R_slice HO153.out; subst eo52; have hcz53_0 : w51.cell? ⟨gb128, 0, none⟩ = some (.int .i64 x129000_1) := (blk_cell BK128.out 0).trans rfl; have hcz53_1 : w51.cell? ⟨gb128, 1, none⟩ = some (.int .i64 x129001_1) := (blk_cell BK128.out 1).trans rfl; have hcz53_2 : w51.cell? ⟨gb128, 2, none⟩ = some (.int .i64 x129002_1) := (blk_cell BK128.out 2).trans rfl; have hcz53_3 : w51.cell? ⟨gb128, 3, none⟩ = some (.int .i64 x129003_1) := (blk_cell BK128.out 3).trans rfl; have hcz53_4 : w51.cell? ⟨gb128, 4, none⟩ = some (.int .i64 x129004_1) := (blk_cell BK128.out 4).trans rfl; have hcz53_5 : w51.cell? ⟨gb128, 5, none⟩ = some (.int .i64 x129005_1) := (blk_cell BK128.out 5).trans rfl; have hcz53_6 : w51.cell? ⟨gb128, 6, none⟩ = some (.int .i64 x129006_1) := (blk_cell BK128.out 6).trans rfl; have hcz53_7 : w51.cell? ⟨gb128, 7, none⟩ = some (.bool x129007_1) := (blk_cell BK128.out 7).trans rfl; have hcz53_8 : w51.cell? ⟨gb128, 8, none⟩ = some (.int .i64 x129008_1) := (blk_cell BK128.out 8).trans rfl; have hcz53_9 : w51.cell? ⟨gb128, 9, none⟩ = some (.int .i64 x129009_1) := (blk_cell BK128.out 9).trans rfl; have hfz53_0 := blk_frozen BK128.out 0; have hfz53_1 := blk_frozen BK128.out 1; have hfz53_2 := blk_frozen BK128.out 2; have hfz53_3 := blk_frozen BK128.out 3; have hfz53_4 := blk_frozen BK128.out 4; have hfz53_5 := blk_frozen BK128.out 5; have hfz53_6 := blk_frozen BK128.out 6; have hfz53_7 := blk_frozen BK128.out 7; have hfz53_8 := blk_frozen BK128.out 8; have hfz53_9 := blk_frozen BK128.out 9))
          refine bodyPost_ret (results_ct rfl _ _ gb128 25 #[.int .i64 0, .int .i64 0, .int .i64 0, .int .i64 0, .int .i64 0, .int .i64 0, .int .i64 0, .bool false, .int .i64 0, .int .i64 0] (0, 0) _ rfl (by (with_reducible repeat (first | refine blk_drewN ?_ _ | refine blk_drew ?_ | refine blk_alloc ?_ _)); refine blk_put (cs := #[.int .i64 0, .int .i64 0, .int .i64 0, .int .i64 0, .int .i64 0, .int .i64 0, .int .i64 0, .bool false, .int .i64 0, .int .i64 x129009_1]) ?_ 9 _ rfl; (with_reducible repeat (first | refine blk_drewN ?_ _ | refine blk_drew ?_ | refine blk_alloc ?_ _)); refine blk_put (cs := #[.int .i64 0, .int .i64 0, .int .i64 0, .int .i64 0, .int .i64 0, .int .i64 0, .int .i64 0, .bool false, .int .i64 x129008_1, .int .i64 x129009_1]) ?_ 8 _ rfl; (with_reducible repeat (first | refine blk_drewN ?_ _ | refine blk_drew ?_ | refine blk_alloc ?_ _)); refine blk_put (cs := #[.int .i64 0, .int .i64 0, .int .i64 0, .int .i64 0, .int .i64 0, .int .i64 0, .int .i64 0, .bool x129007_1, .int .i64 x129008_1, .int .i64 x129009_1]) ?_ 7 _ rfl; (with_reducible repeat (first | refine blk_drewN ?_ _ | refine blk_drew ?_ | refine blk_alloc ?_ _)); refine blk_put (cs := #[.int .i64 0, .int .i64 0, .int .i64 0, .int .i64 0, .int .i64 0, .int .i64 0, .int .i64 x129006_1, .bool x129007_1, .int .i64 x129008_1, .int .i64 x129009_1]) ?_ 6 _ rfl; (with_reducible repeat (first | refine blk_drewN ?_ _ | refine blk_drew ?_ | refine blk_alloc ?_ _)); refine blk_put (cs := #[.int .i64 0, .int .i64 0, .int .i64 0, .int .i64 0, .int .i64 0, .int .i64 x129005_1, .int .i64 x129006_1, .bool x129007_1, .int .i64 x129008_1, .int .i64 x129009_1]) ?_ 5 _ rfl; (with_reducible repeat (first | refine blk_drewN ?_ _ | refine blk_drew ?_ | refine blk_alloc ?_ _)); refine blk_put (cs := #[.int .i64 0, .int .i64 0, .int .i64 0, .int .i64 0, .int .i64 x129004_1, .int .i64 x129005_1, .int .i64 x129006_1, .bool x129007_1, .int .i64 x129008_1, .int .i64 x129009_1]) ?_ 4 _ rfl; (with_reducible repeat (first | refine blk_drewN ?_ _ | refine blk_drew ?_ | refine blk_alloc ?_ _)); refine blk_put (cs := #[.int .i64 0, .int .i64 0, .int .i64 0, .int .i64 x129003_1, .int .i64 x129004_1, .int .i64 x129005_1, .int .i64 x129006_1, .bool x129007_1, .int .i64 x129008_1, .int .i64 x129009_1]) ?_ 3 _ rfl; (with_reducible repeat (first | refine blk_drewN ?_ _ | refine blk_drew ?_ | refine blk_alloc ?_ _)); refine blk_put (cs := #[.int .i64 0, .int .i64 0, .int .i64 x129002_1, .int .i64 x129003_1, .int .i64 x129004_1, .int .i64 x129005_1, .int .i64 x129006_1, .bool x129007_1, .int .i64 x129008_1, .int .i64 x129009_1]) ?_ 2 _ rfl; (with_reducible repeat (first | refine blk_drewN ?_ _ | refine blk_drew ?_ | refine blk_alloc ?_ _)); refine blk_put (cs := #[.int .i64 0, .int .i64 x129001_1, .int .i64 x129002_1, .int .i64 x129003_1, .int .i64 x129004_1, .int .i64 x129005_1, .int .i64 x129006_1, .bool x129007_1, .int .i64 x129008_1, .int .i64 x129009_1]) ?_ 1 _ rfl; (with_reducible repeat (first | refine blk_drewN ?_ _ | refine blk_drew ?_ | refine blk_alloc ?_ _)); refine blk_put (cs := #[.int .i64 x129000_1, .int .i64 x129001_1, .int .i64 x129002_1, .int .i64 x129003_1, .int .i64 x129004_1, .int .i64 x129005_1, .int .i64 x129006_1, .bool x129007_1, .int .i64 x129008_1, .int .i64 x129009_1]) ?_ 0 _ rfl; (with_reducible repeat (first | refine blk_drewN ?_ _ | refine blk_drew ?_ | refine blk_alloc ?_ _)); exact BK128.out) Tryd.underlying25 rfl (by kernel_rfl)) rfl ?_
          exact ⟨by first | rfl | (simp [errW_none, errW_some] <;> rfl) | (simp [*, errW_none, errW_some] <;> rfl), by repeat (first | (with_reducible first | exact HB.out | apply below_alloc | apply pw_below_drewN | apply below_drew1 | refine below_set ?_ GE128.out) | exact HB.out)⟩
        · rw [if_neg c49] at H
          have c49b0 : decide ((x4_1.length : Int) < (t151.length : Int)) = false := decide_eq_false c49
          have c49b1 : decide (x4_1.length < t151.length) = false := decide_eq_false (fun h => c49 (Int.ofNat_lt.mpr h))
          clear c49
          by_cases c54 : 0 < (x4_1.length : Int)
          · rw [if_pos c54] at H
            have c54b0 : decide (0 < (x4_1.length : Int)) = true := decide_eq_true c54
            have c54b1 : decide (0 < x4_1.length) = true := decide_eq_true (by omega)
            clear c54
            by_cases c55 : 1 < (x4_1.length : Int)
            · rw [if_pos c55] at H
              have c55b0 : decide (1 < (x4_1.length : Int)) = true := decide_eq_true c55
              have c55b1 : decide (1 < x4_1.length) = true := decide_eq_true (by omega)
              clear c55
              by_cases c56 : 2 < (x4_1.length : Int)
              · rw [if_pos c56] at H
                have c56b0 : decide (2 < (x4_1.length : Int)) = true := decide_eq_true c56
                have c56b1 : decide (2 < x4_1.length) = true := decide_eq_true (by omega)
                clear c56
                by_cases c57 : 3 < (x4_1.length : Int)
                · rw [if_pos c57] at H
                  have c57b0 : decide (3 < (x4_1.length : Int)) = true := decide_eq_true c57
                  have c57b1 : decide (3 < x4_1.length) = true := decide_eq_true (by omega)
                  clear c57
                  by_cases c58 : 4 < (x4_1.length : Int)
                  · rw [if_pos c58] at H
                    have c58b0 : decide (4 < (x4_1.length : Int)) = true := decide_eq_true c58
                    have c58b1 : decide (4 < x4_1.length) = true := decide_eq_true (by omega)
                    clear c58
                    by_cases c59 : 5 < (x4_1.length : Int)
                    · rw [if_pos c59] at H
                      have c59b0 : decide (5 < (x4_1.length : Int)) = true := decide_eq_true c59
                      have c59b1 : decide (5 < x4_1.length) = true := decide_eq_true (by omega)
                      clear c59
                      by_cases c60 : 6 < (x4_1.length : Int)
                      · rw [if_pos c60] at H
                        have c60b0 : decide (6 < (x4_1.length : Int)) = true := decide_eq_true c60
                        have c60b1 : decide (6 < x4_1.length) = true := decide_eq_true (by omega)
                        clear c60
                        by_cases c61 : 7 < (x4_1.length : Int)
                        · rw [if_pos c61] at H
                          have c61b0 : decide (7 < (x4_1.length : Int)) = true := decide_eq_true c61
                          have c61b1 : decide (7 < x4_1.length) = true := decide_eq_true (by omega)
                          clear c61
                          by_cases c62 : 8 < (x4_1.length : Int)
                          · rw [if_pos c62] at H
                            have c62b0 : decide (8 < (x4_1.length : Int)) = true := decide_eq_true c62
                            have c62b1 : decide (8 < x4_1.length) = true := decide_eq_true (by omega)
                            clear c62
                            by_cases c63 : 9 < (x4_1.length : Int)
                            · rw [if_pos c63] at H
                              have c63b0 : decide (9 < (x4_1.length : Int)) = true := decide_eq_true c63
                              have c63b1 : decide (9 < x4_1.length) = true := decide_eq_true (by omega)
                              clear c63
                              replace H := Option.bind_eq_some_iff.mp H
                              obtain ⟨t165, A640, H⟩ := H
                              replace H : (if t165 = true then (some (rd x4_1 0, rd x4_1 1, rd x4_1 2, rd x4_1 3, rd x4_1 4, rd x4_1 5, rd x4_1 6, ((rd x4_1 7) == 1), rd x4_1 8, rd x4_1 9, 0)) else (some (0, 0, 0, 0, 0, 0, 0, false, 0, 0, wrap64 ((l0.length : Int) + 1)))) = some (r1, r2, r3, r4, r5, r6, r7, r8, r9, r10, r11) := H
                              have A64 := Aside0.mk A640
                              clear A640
                              by_cases c65 : t165 = true
                              · subst c65
                                have H1 : (some (rd x4_1 0, rd x4_1 1, rd x4_1 2, rd x4_1 3, rd x4_1 4, rd x4_1 5, rd x4_1 6, ((rd x4_1 7) == 1), rd x4_1 8, rd x4_1 9, 0)) = some (r1, r2, r3, r4, r5, r6, r7, r8, r9, r10, r11) := by rw [if_pos rfl] at H; exact H
                                clear H
                                have H := H1
                                clear H1
                                simp only [Option.some.injEq, Prod.mk.injEq] at H
                                obtain ⟨rfl, rfl, rfl, rfl, rfl, rfl, rfl, rfl, rfl, rfl, rfl⟩ := H
                                obtain ⟨Ao66, co66, eo66⟩ := Kd.R_slice HO_4.out
                                subst eo66
                                try go_wp2_with (first | ((with_reducible refine gate_callee (f := 11) rfl ?_); refine goesL_ (some 70) rfl rfl Tryd.func11 (by kernel_rfl) rfl #[] rfl (by (try simp only [List.map_toArray, List.map_cons, List.map_nil]); first | done | rfl | (simp only [List.length_drop, List.length_take]; rfl)) ?_; (with_reducible refine (spec_l4Names.calls  t151 _ A48.out).mono ?_); rintro e w67 ⟨v152, rfl, ho0, hb⟩; refine ⟨_, rfl, ?_⟩; have n0_ := Aside0.mk (Kd.R_below (by (with_reducible repeat (first | apply Kd.R_alloc | apply Kd.R_drewN | apply Kd.R_drew)); exact HO_4.out) hb); have n1_ := Aside0.mk (Kd.R_lower ho0 (below_size (by repeat (first | (with_reducible first | exact HB.out | apply below_alloc | apply pw_below_drewN | apply below_drew1 | refine below_set ?_ GE128.out) | exact HB.out)))); have n2_ := Aside0.mk (blk_below (g := gb128) (o := .cells #[.int .i64 x129000_1, .int .i64 x129001_1, .int .i64 x129002_1, .int .i64 x129003_1, .int .i64 x129004_1, .int .i64 x129005_1, .int .i64 x129006_1, .bool x129007_1, .int .i64 x129008_1, .int .i64 x129009_1] 25 (0, 0)) (by (with_reducible repeat (first | refine blk_drewN ?_ _ | refine blk_drew ?_ | refine blk_alloc ?_ _)); exact BK128.out) hb); have n3_ := Aside0.mk (below_step (by repeat (first | (with_reducible first | exact HB.out | apply below_alloc | apply pw_below_drewN | apply below_drew1 | refine below_set ?_ GE128.out) | exact HB.out)) hb); clear HO_4; clear BK128; clear HB; have HO_4 := n0_; have HO153 := n1_; have BK128 := n2_; have HB := n3_; clear n0_ n1_ n2_ n3_; (try clear hb); (try clear hb2); (try clear hk); (try clear hi); (try clear ho0); obtain ⟨Ao68, co68, eo68⟩ := Kd.R_slice HO153.out; subst eo68))
                                have n0_ := Aside0.mk (Kd.R_drew HO_4.out)
                                have n1_ := Aside0.mk (Kd.R_drew HO153.out)
                                have n2_ := Aside0.mk (blk_drew BK128.out)
                                have n3_ := Aside0.mk (below_drew1 HB.out)
                                clear HO_4
                                clear HO153
                                clear BK128
                                clear HB
                                have HO_4 := n0_
                                have HO153 := n1_
                                have BK128 := n2_
                                have HB := n3_
                                clear n0_ n1_ n2_ n3_
                                have p154 : 0 ≤ (0 : Int) := (by omega)
                                have q154 : 0 < (x4_1.length : Int) := of_decide_eq_true (by first | (with_reducible assumption) | assumption)
                                obtain ⟨ad154, e154, hx154_0⟩ := Kd.at_int (Kd.R_reads' HO_4.out).2.2 0 p154 q154
                                cases e154
                                have qi154 : (0 < x4_1.length) = True := eq_true (by omega)
                                (try rw [show ((0 : Int)).toNat = 0 from rfl] at hx154_0)
                                (try rw [Addr.add_zero'] at hx154_0)
                                replace p154 := eq_true p154
                                replace q154 := eq_true q154
                                have p155 : 0 ≤ (1 : Int) := (by omega)
                                have q155 : 1 < (x4_1.length : Int) := of_decide_eq_true (by first | (with_reducible assumption) | assumption)
                                obtain ⟨ad155, e155, hx155_0⟩ := Kd.at_int (Kd.R_reads' HO_4.out).2.2 1 p155 q155
                                obtain rfl : ad154 = ad155 := (by injection e155)
                                (try simp only [show (1 : Int).toNat = 1 from rfl, Nat.reduceMul, Nat.reduceEqDiff, Go.Addr.add, ↓reduceIte] at hx155_0)
                                have qi155 : (1 < x4_1.length) = True := eq_true (by omega)
                                (try rw [show ((1 : Int)).toNat = 1 from rfl] at hx155_0)
                                replace p155 := eq_true p155
                                replace q155 := eq_true q155
                                have p156 : 0 ≤ (2 : Int) := (by omega)
                                have q156 : 2 < (x4_1.length : Int) := of_decide_eq_true (by first | (with_reducible assumption) | assumption)
                                obtain ⟨ad156, e156, hx156_0⟩ := Kd.at_int (Kd.R_reads' HO_4.out).2.2 2 p156 q156
                                obtain rfl : ad154 = ad156 := (by injection e156)
                                (try simp only [show (2 : Int).toNat = 2 from rfl, Nat.reduceMul, Nat.reduceEqDiff, Go.Addr.add, ↓reduceIte] at hx156_0)
                                have qi156 : (2 < x4_1.length) = True := eq_true (by omega)
                                (try rw [show ((2 : Int)).toNat = 2 from rfl] at hx156_0)
                                replace p156 := eq_true p156
                                replace q156 := eq_true q156
                                have p157 : 0 ≤ (3 : Int) := (by omega)
                                have q157 : 3 < (x4_1.length : Int) := of_decide_eq_true (by first | (with_reducible assumption) | assumption)
                                obtain ⟨ad157, e157, hx157_0⟩ := Kd.at_int (Kd.R_reads' HO_4.out).2.2 3 p157 q157
                                obtain rfl : ad154 = ad157 := (by injection e157)
                                (try simp only [show (3 : Int).toNat = 3 from rfl, Nat.reduceMul, Nat.reduceEqDiff, Go.Addr.add, ↓reduceIte] at hx157_0)
                                have qi157 : (3 < x4_1.length) = True := eq_true (by omega)
                                (try rw [show ((3 : Int)).toNat = 3 from rfl] at hx157_0)
                                replace p157 := eq_true p157
                                replace q157 := eq_true q157
                                have p158 : 0 ≤ (4 : Int) := (by omega)
                                have q158 : 4 < (x4_1.length : Int) := of_decide_eq_true (by first | (with_reducible assumption) | assumption)
                                obtain ⟨ad158, e158, hx158_0⟩ := Kd.at_int (Kd.R_reads' HO_4.out).2.2 4 p158 q158
                                obtain rfl : ad154 = ad158 := (by injection e158)
                                (try simp only [show (4 : Int).toNat = 4 from rfl, Nat.reduceMul, Nat.reduceEqDiff, Go.Addr.add, ↓reduceIte] at hx158_0)
                                have qi158 : (4 < x4_1.length) = True := eq_true (by omega)
                                (try rw [show ((4 : Int)).toNat = 4 from rfl] at hx158_0)
                                replace p158 := eq_true p158
                                replace q158 := eq_true q158
                                have p159 : 0 ≤ (5 : Int) := (by omega)
                                have q159 : 5 < (x4_1.length : Int) := of_decide_eq_true (by first | (with_reducible assumption) | assumption)
                                obtain ⟨ad159, e159, hx159_0⟩ := Kd.at_int (Kd.R_reads' HO_4.out).2.2 5 p159 q159
                                obtain rfl : ad154 = ad159 := (by injection e159)
                                (try simp only [show (5 : Int).toNat = 5 from rfl, Nat.reduceMul, Nat.reduceEqDiff, Go.Addr.add, ↓reduceIte] at hx159_0)
                                have qi159 : (5 < x4_1.length) = True := eq_true (by omega)
                                (try rw [show ((5 : Int)).toNat = 5 from rfl] at hx159_0)
                                replace p159 := eq_true p159
                                replace q159 := eq_true q159
                                have p160 : 0 ≤ (6 : Int) := (by omega)
                                have q160 : 6 < (x4_1.length : Int) := of_decide_eq_true (by first | (with_reducible assumption) | assumption)
                                obtain ⟨ad160, e160, hx160_0⟩ := Kd.at_int (Kd.R_reads' HO_4.out).2.2 6 p160 q160
                                obtain rfl : ad154 = ad160 := (by injection e160)
                                (try simp only [show (6 : Int).toNat = 6 from rfl, Nat.reduceMul, Nat.reduceEqDiff, Go.Addr.add, ↓reduceIte] at hx160_0)
                                have qi160 : (6 < x4_1.length) = True := eq_true (by omega)
                                (try rw [show ((6 : Int)).toNat = 6 from rfl] at hx160_0)
                                replace p160 := eq_true p160
                                replace q160 := eq_true q160
                                have p161 : 0 ≤ (7 : Int) := (by omega)
                                have q161 : 7 < (x4_1.length : Int) := of_decide_eq_true (by first | (with_reducible assumption) | assumption)
                                obtain ⟨ad161, e161, hx161_0⟩ := Kd.at_int (Kd.R_reads' HO_4.out).2.2 7 p161 q161
                                obtain rfl : ad154 = ad161 := (by injection e161)
                                (try simp only [show (7 : Int).toNat = 7 from rfl, Nat.reduceMul, Nat.reduceEqDiff, Go.Addr.add, ↓reduceIte] at hx161_0)
                                have qi161 : (7 < x4_1.length) = True := eq_true (by omega)
                                (try rw [show ((7 : Int)).toNat = 7 from rfl] at hx161_0)
                                replace p161 := eq_true p161
                                replace q161 := eq_true q161
                                have p162 : 0 ≤ (8 : Int) := (by omega)
                                have q162 : 8 < (x4_1.length : Int) := of_decide_eq_true (by first | (with_reducible assumption) | assumption)
                                obtain ⟨ad162, e162, hx162_0⟩ := Kd.at_int (Kd.R_reads' HO_4.out).2.2 8 p162 q162
                                obtain rfl : ad154 = ad162 := (by injection e162)
                                (try simp only [show (8 : Int).toNat = 8 from rfl, Nat.reduceMul, Nat.reduceEqDiff, Go.Addr.add, ↓reduceIte] at hx162_0)
                                have qi162 : (8 < x4_1.length) = True := eq_true (by omega)
                                (try rw [show ((8 : Int)).toNat = 8 from rfl] at hx162_0)
                                replace p162 := eq_true p162
                                replace q162 := eq_true q162
                                have p163 : 0 ≤ (9 : Int) := (by omega)
                                have q163 : 9 < (x4_1.length : Int) := of_decide_eq_true (by first | (with_reducible assumption) | assumption)
                                obtain ⟨ad163, e163, hx163_0⟩ := Kd.at_int (Kd.R_reads' HO_4.out).2.2 9 p163 q163
                                obtain rfl : ad154 = ad163 := (by injection e163)
                                (try simp only [show (9 : Int).toNat = 9 from rfl, Nat.reduceMul, Nat.reduceEqDiff, Go.Addr.add, ↓reduceIte] at hx163_0)
                                have qi163 : (9 < x4_1.length) = True := eq_true (by omega)
                                (try rw [show ((9 : Int)).toNat = 9 from rfl] at hx163_0)
                                replace p163 := eq_true p163
                                replace q163 := eq_true q163
                                refine start_ (n := 34) (S := fun w' => w'.cell? ad154 = some (.int .i64 (rd x4_1 0)) ∧ w'.cell? ⟨ad154.block, ad154.off + 1, none⟩ = some (.int .i64 (rd x4_1 1)) ∧ w'.cell? ⟨ad154.block, ad154.off + 2, none⟩ = some (.int .i64 (rd x4_1 2)) ∧ w'.cell? ⟨ad154.block, ad154.off + 3, none⟩ = some (.int .i64 (rd x4_1 3)) ∧ w'.cell? ⟨ad154.block, ad154.off + 4, none⟩ = some (.int .i64 (rd x4_1 4)) ∧ w'.cell? ⟨ad154.block, ad154.off + 5, none⟩ = some (.int .i64 (rd x4_1 5)) ∧ w'.cell? ⟨ad154.block, ad154.off + 6, none⟩ = some (.int .i64 (rd x4_1 6)) ∧ w'.cell? ⟨ad154.block, ad154.off + 7, none⟩ = some (.int .i64 (rd x4_1 7)) ∧ w'.cell? ⟨ad154.block, ad154.off + 8, none⟩ = some (.int .i64 (rd x4_1 8)) ∧ w'.cell? ⟨ad154.block, ad154.off + 9, none⟩ = some (.int .i64 (rd x4_1 9))) (ds := []) #[false, false, false, false, false, false, false, false, false, false, false, false, false, false, false, false, false, false, false, false, false, false, false, false, false, false, false, false, false, false, false, false, false, false] (by kernel_rfl) rfl rfl ⟨hx154_0, hx155_0, hx156_0, hx157_0, hx158_0, hx159_0, hx160_0, hx161_0, hx162_0, hx163_0⟩ (fun hHeld => ?_); refine with_tabW spec_JobParse.tab15 spec_JobParse.bits15 (fun HT_ HW_ => ?_)
                                generalize w67.drew = w69 at HO_4 HO153 BK128 HB hx154_0 hx155_0 hx156_0 hx157_0 hx158_0 hx159_0 hx160_0 hx161_0 hx162_0 hx163_0 hHeld ⊢
                                refine pure_ (i := 0) (N := some 77) (v := ?_) (a' := ?_) #[true, false, false, false, false, false, false, false, false, false, false, false, false, false, false, false, false, false, false, false, false, false, false, false, false, false, false, false, false, false, false, false, false, false] rfl rfl (any_of HT_.out (by kernel_rfl)) (fun _ _ _ h => h) (Or.inl ⟨by rfl, ?_⟩) ?_ ?_
                                rotate_left
                                · intro w'
                                  go_simp
                                  with_reducible rfl
                                rotate_left
                                · simp only [Act.put, List.setIfInBounds_toArray, List.set_cons_zero, List.set_cons_succ, i64_w, i32_w]
                                  rfl
                                refine pure_ (i := 1) (N := some 78) (v := ?_) (a' := ?_) #[true, true, false, false, false, false, false, false, false, false, false, false, false, false, false, false, false, false, false, false, false, false, false, false, false, false, false, false, false, false, false, false, false, false] rfl rfl (any_of HT_.out (by kernel_rfl)) (fun _ _ _ h => h) (Or.inl ⟨by rfl, ?_⟩) ?_ ?_
                                rotate_left
                                · intro w'
                                  go_simp
                                  with_reducible rfl
                                rotate_left
                                · simp only [Act.put, List.setIfInBounds_toArray, List.set_cons_zero, List.set_cons_succ, i64_w, i32_w]
                                  rfl
                                refine pure_ (i := 3) (N := some 80) (v := ?_) (a' := ?_) #[true, true, false, true, false, false, false, false, false, false, false, false, false, false, false, false, false, false, false, false, false, false, false, false, false, false, false, false, false, false, false, false, false, false] rfl rfl (any_of HT_.out (by kernel_rfl)) (fun _ _ _ h => h) (Or.inl ⟨by rfl, ?_⟩) ?_ ?_
                                rotate_left
                                · intro w'
                                  go_simp
                                  with_reducible rfl
                                rotate_left
                                · simp only [Act.put, List.setIfInBounds_toArray, List.set_cons_zero, List.set_cons_succ, i64_w, i32_w]
                                  rfl
                                refine pure_ (i := 4) (N := some 81) (v := ?_) (a' := ?_) #[true, true, false, true, true, false, false, false, false, false, false, false, false, false, false, false, false, false, false, false, false, false, false, false, false, false, false, false, false, false, false, false, false, false] rfl rfl (any_of HT_.out (by kernel_rfl)) (fun _ _ _ h => h) (Or.inl ⟨by rfl, ?_⟩) ?_ ?_
                                rotate_left
                                · intro w'
                                  go_simp
                                  with_reducible rfl
                                rotate_left
                                · simp only [Act.put, List.setIfInBounds_toArray, List.set_cons_zero, List.set_cons_succ, i64_w, i32_w]
                                  rfl
                                refine pure_ (i := 6) (N := some 83) (v := ?_) (a' := ?_) #[true, true, false, true, true, false, true, false, false, false, false, false, false, false, false, false, false, false, false, false, false, false, false, false, false, false, false, false, false, false, false, false, false, false] rfl rfl (any_of HT_.out (by kernel_rfl)) (fun _ _ _ h => h) (Or.inl ⟨by rfl, ?_⟩) ?_ ?_
                                rotate_left
                                · intro w'
                                  go_simp
                                  with_reducible rfl
                                rotate_left
                                · simp only [Act.put, List.setIfInBounds_toArray, List.set_cons_zero, List.set_cons_succ, i64_w, i32_w]
                                  rfl
                                refine pure_ (i := 7) (N := some 84) (v := ?_) (a' := ?_) #[true, true, false, true, true, false, true, true, false, false, false, false, false, false, false, false, false, false, false, false, false, false, false, false, false, false, false, false, false, false, false, false, false, false] rfl rfl (any_of HT_.out (by kernel_rfl)) (fun _ _ _ h => h) (Or.inl ⟨by rfl, ?_⟩) ?_ ?_
                                rotate_left
                                · intro w'
                                  go_simp
                                  with_reducible rfl
                                rotate_left
                                · simp only [Act.put, List.setIfInBounds_toArray, List.set_cons_zero, List.set_cons_succ, i64_w, i32_w]
                                  rfl
                                refine pure_ (i := 9) (N := some 86) (v := ?_) (a' := ?_) #[true, true, false, true, true, false, true, true, false, true, false, false, false, false, false, false, false, false, false, false, false, false, false, false, false, false, false, false, false, false, false, false, false, false] rfl rfl (any_of HT_.out (by kernel_rfl)) (fun _ _ _ h => h) (Or.inl ⟨by rfl, ?_⟩) ?_ ?_
                                rotate_left
                                · intro w'
                                  go_simp
                                  with_reducible rfl
                                rotate_left
                                · simp only [Act.put, List.setIfInBounds_toArray, List.set_cons_zero, List.set_cons_succ, i64_w, i32_w]
                                  rfl
                                refine pure_ (i := 10) (N := some 87) (v := ?_) (a' := ?_) #[true, true, false, true, true, false, true, true, false, true, true, false, false, false, false, false, false, false, false, false, false, false, false, false, false, false, false, false, false, false, false, false, false, false] rfl rfl (any_of HT_.out (by kernel_rfl)) (fun _ _ _ h => h) (Or.inl ⟨by rfl, ?_⟩) ?_ ?_
                                rotate_left
                                · intro w'
                                  go_simp
                                  with_reducible rfl
                                rotate_left
                                · simp only [Act.put, List.setIfInBounds_toArray, List.set_cons_zero, List.set_cons_succ, i64_w, i32_w]
                                  rfl
                                refine pure_ (i := 12) (N := some 89) (v := ?_) (a' := ?_) #[true, true, false, true, true, false, true, true, false, true, true, false, true, false, false, false, false, false, false, false, false, false, false, false, false, false, false, false, false, false, false, false, false, false] rfl rfl (any_of HT_.out (by kernel_rfl)) (fun _ _ _ h => h) (Or.inl ⟨by rfl, ?_⟩) ?_ ?_
                                rotate_left
                                · intro w'
                                  go_simp
                                  with_reducible rfl
                                rotate_left
                                · simp only [Act.put, List.setIfInBounds_toArray, List.set_cons_zero, List.set_cons_succ, i64_w, i32_w]
                                  rfl
                                refine pure_ (i := 13) (N := some 90) (v := ?_) (a' := ?_) #[true, true, false, true, true, false, true, true, false, true, true, false, true, true, false, false, false, false, false, false, false, false, false, false, false, false, false, false, false, false, false, false, false, false] rfl rfl (any_of HT_.out (by kernel_rfl)) (fun _ _ _ h => h) (Or.inl ⟨by rfl, ?_⟩) ?_ ?_
                                rotate_left
                                · intro w'
                                  go_simp
                                  with_reducible rfl
                                rotate_left
                                · simp only [Act.put, List.setIfInBounds_toArray, List.set_cons_zero, List.set_cons_succ, i64_w, i32_w]
                                  rfl
                                refine pure_ (i := 15) (N := some 92) (v := ?_) (a' := ?_) #[true, true, false, true, true, false, true, true, false, true, true, false, true, true, false, true, false, false, false, false, false, false, false, false, false, false, false, false, false, false, false, false, false, false] rfl rfl (any_of HT_.out (by kernel_rfl)) (fun _ _ _ h => h) (Or.inl ⟨by rfl, ?_⟩) ?_ ?_
                                rotate_left
                                · intro w'
                                  go_simp
                                  with_reducible rfl
                                rotate_left
                                · simp only [Act.put, List.setIfInBounds_toArray, List.set_cons_zero, List.set_cons_succ, i64_w, i32_w]
                                  rfl
                                refine pure_ (i := 16) (N := some 93) (v := ?_) (a' := ?_) #[true, true, false, true, true, false, true, true, false, true, true, false, true, true, false, true, true, false, false, false, false, false, false, false, false, false, false, false, false, false, false, false, false, false] rfl rfl (any_of HT_.out (by kernel_rfl)) (fun _ _ _ h => h) (Or.inl ⟨by rfl, ?_⟩) ?_ ?_
                                rotate_left
                                · intro w'
                                  go_simp
                                  with_reducible rfl
                                rotate_left
                                · simp only [Act.put, List.setIfInBounds_toArray, List.set_cons_zero, List.set_cons_succ, i64_w, i32_w]
                                  rfl
                                refine pure_ (i := 18) (N := some 95) (v := ?_) (a' := ?_) #[true, true, false, true, true, false, true, true, false, true, true, false, true, true, false, true, true, false, true, false, false, false, false, false, false, false, false, false, false, false, false, false, false, false] rfl rfl (any_of HT_.out (by kernel_rfl)) (fun _ _ _ h => h) (Or.inl ⟨by rfl, ?_⟩) ?_ ?_
                                rotate_left
                                · intro w'
                                  go_simp
                                  with_reducible rfl
                                rotate_left
                                · simp only [Act.put, List.setIfInBounds_toArray, List.set_cons_zero, List.set_cons_succ, i64_w, i32_w]
                                  rfl
                                refine pure_ (i := 19) (N := some 96) (v := ?_) (a' := ?_) #[true, true, false, true, true, false, true, true, false, true, true, false, true, true, false, true, true, false, true, true, false, false, false, false, false, false, false, false, false, false, false, false, false, false] rfl rfl (any_of HT_.out (by kernel_rfl)) (fun _ _ _ h => h) (Or.inl ⟨by rfl, ?_⟩) ?_ ?_
                                rotate_left
                                · intro w'
                                  go_simp
                                  with_reducible rfl
                                rotate_left
                                · simp only [Act.put, List.setIfInBounds_toArray, List.set_cons_zero, List.set_cons_succ, i64_w, i32_w]
                                  rfl
                                refine pure_ (i := 21) (N := some 98) (v := ?_) (a' := ?_) #[true, true, false, true, true, false, true, true, false, true, true, false, true, true, false, true, true, false, true, true, false, true, false, false, false, false, false, false, false, false, false, false, false, false] rfl rfl (any_of HT_.out (by kernel_rfl)) (fun _ _ _ h => h) (Or.inl ⟨by rfl, ?_⟩) ?_ ?_
                                rotate_left
                                · intro w'
                                  go_simp
                                  with_reducible rfl
                                rotate_left
                                · simp only [Act.put, List.setIfInBounds_toArray, List.set_cons_zero, List.set_cons_succ, i64_w, i32_w]
                                  rfl
                                refine pure_ (i := 22) (N := some 99) (v := ?_) (a' := ?_) #[true, true, false, true, true, false, true, true, false, true, true, false, true, true, false, true, true, false, true, true, false, true, true, false, false, false, false, false, false, false, false, false, false, false] rfl rfl (any_of HT_.out (by kernel_rfl)) (fun _ _ _ h => h) (Or.inl ⟨by rfl, ?_⟩) ?_ ?_
                                rotate_left
                                · intro w'
                                  go_simp
                                  with_reducible rfl
                                rotate_left
                                · simp only [Act.put, List.setIfInBounds_toArray, List.set_cons_zero, List.set_cons_succ, i64_w, i32_w]
                                  rfl
                                refine pure_ (i := 25) (N := some 102) (v := ?_) (a' := ?_) #[true, true, false, true, true, false, true, true, false, true, true, false, true, true, false, true, true, false, true, true, false, true, true, false, false, true, false, false, false, false, false, false, false, false] rfl rfl (any_of HT_.out (by kernel_rfl)) (fun _ _ _ h => h) (Or.inl ⟨by rfl, ?_⟩) ?_ ?_
                                rotate_left
                                · intro w'
                                  go_simp
                                  with_reducible rfl
                                rotate_left
                                · simp only [Act.put, List.setIfInBounds_toArray, List.set_cons_zero, List.set_cons_succ, i64_w, i32_w]
                                  rfl
                                refine pure_ (i := 26) (N := some 103) (v := ?_) (a' := ?_) #[true, true, false, true, true, false, true, true, false, true, true, false, true, true, false, true, true, false, true, true, false, true, true, false, false, true, true, false, false, false, false, false, false, false] rfl rfl (any_of HT_.out (by kernel_rfl)) (fun _ _ _ h => h) (Or.inl ⟨by rfl, ?_⟩) ?_ ?_
                                rotate_left
                                · intro w'
                                  go_simp
                                  with_reducible rfl
                                rotate_left
                                · simp only [Act.put, List.setIfInBounds_toArray, List.set_cons_zero, List.set_cons_succ, i64_w, i32_w]
                                  rfl
                                refine pure_ (i := 28) (N := some 105) (v := ?_) (a' := ?_) #[true, true, false, true, true, false, true, true, false, true, true, false, true, true, false, true, true, false, true, true, false, true, true, false, false, true, true, false, true, false, false, false, false, false] rfl rfl (any_of HT_.out (by kernel_rfl)) (fun _ _ _ h => h) (Or.inl ⟨by rfl, ?_⟩) ?_ ?_
                                rotate_left
                                · intro w'
                                  go_simp
                                  with_reducible rfl
                                rotate_left
                                · simp only [Act.put, List.setIfInBounds_toArray, List.set_cons_zero, List.set_cons_succ, i64_w, i32_w]
                                  rfl
                                refine pure_ (i := 29) (N := some 106) (v := ?_) (a' := ?_) #[true, true, false, true, true, false, true, true, false, true, true, false, true, true, false, true, true, false, true, true, false, true, true, false, false, true, true, false, true, true, false, false, false, false] rfl rfl (any_of HT_.out (by kernel_rfl)) (fun _ _ _ h => h) (Or.inl ⟨by rfl, ?_⟩) ?_ ?_
                                rotate_left
                                · intro w'
                                  go_simp
                                  with_reducible rfl
                                rotate_left
                                · simp only [Act.put, List.setIfInBounds_toArray, List.set_cons_zero, List.set_cons_succ, i64_w, i32_w]
                                  rfl
                                refine take_ (i := 2) (N := some 79) (v := ?_) (a' := ?_) #[true, true, true, true, true, false, true, true, false, true, true, false, true, true, false, true, true, false, true, true, false, true, true, false, false, true, true, false, true, true, false, false, false, false] rfl rfl (take_ofW HT_.out HW_.out (by kernel_rfl)) (fun _ _ _ h => h) (Or.inl ⟨by rfl, ?_⟩) hHeld ?_ ?_
                                rotate_left
                                · rintro w' ⟨s0, s1, s2, s3, s4, s5, s6, s7, s8, s9⟩
                                  go_simp
                                  with_reducible rfl
                                rotate_left
                                · simp only [Act.put, List.setIfInBounds_toArray, List.set_cons_zero, List.set_cons_succ, i64_w, i32_w]
                                  rfl
                                refine take_ (i := 5) (N := some 82) (v := ?_) (a' := ?_) #[true, true, true, true, true, true, true, true, false, true, true, false, true, true, false, true, true, false, true, true, false, true, true, false, false, true, true, false, true, true, false, false, false, false] rfl rfl (take_ofW HT_.out HW_.out (by kernel_rfl)) (fun _ _ _ h => h) (Or.inl ⟨by rfl, ?_⟩) hHeld ?_ ?_
                                rotate_left
                                · rintro w' ⟨s0, s1, s2, s3, s4, s5, s6, s7, s8, s9⟩
                                  go_simp
                                  with_reducible rfl
                                rotate_left
                                · simp only [Act.put, List.setIfInBounds_toArray, List.set_cons_zero, List.set_cons_succ, i64_w, i32_w]
                                  rfl
                                refine take_ (i := 8) (N := some 85) (v := ?_) (a' := ?_) #[true, true, true, true, true, true, true, true, true, true, true, false, true, true, false, true, true, false, true, true, false, true, true, false, false, true, true, false, true, true, false, false, false, false] rfl rfl (take_ofW HT_.out HW_.out (by kernel_rfl)) (fun _ _ _ h => h) (Or.inl ⟨by rfl, ?_⟩) hHeld ?_ ?_
                                rotate_left
                                · rintro w' ⟨s0, s1, s2, s3, s4, s5, s6, s7, s8, s9⟩
                                  go_simp
                                  with_reducible rfl
                                rotate_left
                                · simp only [Act.put, List.setIfInBounds_toArray, List.set_cons_zero, List.set_cons_succ, i64_w, i32_w]
                                  rfl
                                refine take_ (i := 11) (N := some 88) (v := ?_) (a' := ?_) #[true, true, true, true, true, true, true, true, true, true, true, true, true, true, false, true, true, false, true, true, false, true, true, false, false, true, true, false, true, true, false, false, false, false] rfl rfl (take_ofW HT_.out HW_.out (by kernel_rfl)) (fun _ _ _ h => h) (Or.inl ⟨by rfl, ?_⟩) hHeld ?_ ?_
                                rotate_left
                                · rintro w' ⟨s0, s1, s2, s3, s4, s5, s6, s7, s8, s9⟩
                                  go_simp
                                  with_reducible rfl
                                rotate_left
                                · simp only [Act.put, List.setIfInBounds_toArray, List.set_cons_zero, List.set_cons_succ, i64_w, i32_w]
                                  rfl
                                refine take_ (i := 14) (N := some 91) (v := ?_) (a' := ?_) #[true, true, true, true, true, true, true, true, true, true, true, true, true, true, true, true, true, false, true, true, false, true, true, false, false, true, true, false, true, true, false, false, false, false] rfl rfl (take_ofW HT_.out HW_.out (by kernel_rfl)) (fun _ _ _ h => h) (Or.inl ⟨by rfl, ?_⟩) hHeld ?_ ?_
                                rotate_left
                                · rintro w' ⟨s0, s1, s2, s3, s4, s5, s6, s7, s8, s9⟩
                                  go_simp
                                  with_reducible rfl
                                rotate_left
                                · simp only [Act.put, List.setIfInBounds_toArray, List.set_cons_zero, List.set_cons_succ, i64_w, i32_w]
                                  rfl
                                refine take_ (i := 17) (N := some 94) (v := ?_) (a' := ?_) #[true, true, true, true, true, true, true, true, true, true, true, true, true, true, true, true, true, true, true, true, false, true, true, false, false, true, true, false, true, true, false, false, false, false] rfl rfl (take_ofW HT_.out HW_.out (by kernel_rfl)) (fun _ _ _ h => h) (Or.inl ⟨by rfl, ?_⟩) hHeld ?_ ?_
                                rotate_left
                                · rintro w' ⟨s0, s1, s2, s3, s4, s5, s6, s7, s8, s9⟩
                                  go_simp
                                  with_reducible rfl
                                rotate_left
                                · simp only [Act.put, List.setIfInBounds_toArray, List.set_cons_zero, List.set_cons_succ, i64_w, i32_w]
                                  rfl
                                refine take_ (i := 20) (N := some 97) (v := ?_) (a' := ?_) #[true, true, true, true, true, true, true, true, true, true, true, true, true, true, true, true, true, true, true, true, true, true, true, false, false, true, true, false, true, true, false, false, false, false] rfl rfl (take_ofW HT_.out HW_.out (by kernel_rfl)) (fun _ _ _ h => h) (Or.inl ⟨by rfl, ?_⟩) hHeld ?_ ?_
                                rotate_left
                                · rintro w' ⟨s0, s1, s2, s3, s4, s5, s6, s7, s8, s9⟩
                                  go_simp
                                  with_reducible rfl
                                rotate_left
                                · simp only [Act.put, List.setIfInBounds_toArray, List.set_cons_zero, List.set_cons_succ, i64_w, i32_w]
                                  rfl
                                refine take_ (i := 23) (N := some 100) (v := ?_) (a' := ?_) #[true, true, true, true, true, true, true, true, true, true, true, true, true, true, true, true, true, true, true, true, true, true, true, true, false, true, true, false, true, true, false, false, false, false] rfl rfl (take_ofW HT_.out HW_.out (by kernel_rfl)) (fun _ _ _ h => h) (Or.inl ⟨by rfl, ?_⟩) hHeld ?_ ?_
                                rotate_left
                                · rintro w' ⟨s0, s1, s2, s3, s4, s5, s6, s7, s8, s9⟩
                                  go_simp
                                  with_reducible rfl
                                rotate_left
                                · simp only [Act.put, List.setIfInBounds_toArray, List.set_cons_zero, List.set_cons_succ, i64_w, i32_w]
                                  rfl
                                refine pure_ (i := 24) (N := some 101) (v := ?_) (a' := ?_) #[true, true, true, true, true, true, true, true, true, true, true, true, true, true, true, true, true, true, true, true, true, true, true, true, true, true, true, false, true, true, false, false, false, false] rfl rfl (any_of HT_.out (by kernel_rfl)) (fun _ _ _ h => h) (Or.inl ⟨by rfl, ?_⟩) ?_ ?_
                                rotate_left
                                · intro w'
                                  go_simp
                                  with_reducible rfl
                                rotate_left
                                · simp only [Act.put, List.setIfInBounds_toArray, List.set_cons_zero, List.set_cons_succ, i64_w, i32_w]
                                  rfl
                                refine take_ (i := 27) (N := some 104) (v := ?_) (a' := ?_) #[true, true, true, true, true, true, true, true, true, true, true, true, true, true, true, true, true, true, true, true, true, true, true, true, true, true, true, true, true, true, false, false, false, false] rfl rfl (take_ofW HT_.out HW_.out (by kernel_rfl)) (fun _ _ _ h => h) (Or.inl ⟨by rfl, ?_⟩) hHeld ?_ ?_
                                rotate_left
                                · rintro w' ⟨s0, s1, s2, s3, s4, s5, s6, s7, s8, s9⟩
                                  go_simp
                                  with_reducible rfl
                                rotate_left
                                · simp only [Act.put, List.setIfInBounds_toArray, List.set_cons_zero, List.set_cons_succ, i64_w, i32_w]
                                  rfl
                                refine take_ (i := 30) (N := some 107) (v := ?_) (a' := ?_) #[true, true, true, true, true, true, true, true, true, true, true, true, true, true, true, true, true, true, true, true, true, true, true, true, true, true, true, true, true, true, true, false, false, false] rfl rfl (take_ofW HT_.out HW_.out (by kernel_rfl)) (fun _ _ _ h => h) (Or.inl ⟨by rfl, ?_⟩) hHeld ?_ ?_
                                rotate_left
                                · rintro w' ⟨s0, s1, s2, s3, s4, s5, s6, s7, s8, s9⟩
                                  go_simp
                                  with_reducible rfl
                                rotate_left
                                · simp only [Act.put, List.setIfInBounds_toArray, List.set_cons_zero, List.set_cons_succ, i64_w, i32_w]
                                  rfl
                                refine pure_ (i := 31) (N := some 108) (v := ?_) (a' := ?_) #[true, true, true, true, true, true, true, true, true, true, true, true, true, true, true, true, true, true, true, true, true, true, true, true, true, true, true, true, true, true, true, true, false, false] rfl rfl (any_of HT_.out (by kernel_rfl)) (fun _ _ _ h => h) (Or.inl ⟨by rfl, ?_⟩) ?_ ?_
                                rotate_left
                                · intro w'
                                  go_simp
                                  with_reducible rfl
                                rotate_left
                                · simp only [Act.put, List.setIfInBounds_toArray, List.set_cons_zero, List.set_cons_succ, i64_w, i32_w]
                                  rfl
                                refine one_ (i := 32) (N := some 10) #[true, true, true, true, true, true, true, true, true, true, true, true, true, true, true, true, true, true, true, true, true, true, true, true, true, true, true, true, true, true, true, true, true, false] rfl rfl (one_of HT_.out (by kernel_rfl)) (by decide) (fun K hK => ?_)
                                refine box_step ?hg (N := 10) ?hd (cs := #[.int .i64 0, .int .i64 0, .int .i64 0, .int .i64 0, .int .i64 0, .int .i64 0, .int .i64 0, .bool false, .int .i64 0, .int .i64 0]) (t := 25) ?hr ?_; (case hd => rfl); (case hg => rfl); (case hr => first | (go_simp; done) | (go_simp; rfl))
                                intro gb164 hg w70 hbox hb
                                have HS0_ := (hb.cell (World.block_lt_of_cell? _ _ (hHeld.1))).trans (hHeld.1)
                                have HS1_ := (hb.cell (World.block_lt_of_cell? _ _ (hHeld.2.1))).trans (hHeld.2.1)
                                have HS2_ := (hb.cell (World.block_lt_of_cell? _ _ (hHeld.2.2.1))).trans (hHeld.2.2.1)
                                have HS3_ := (hb.cell (World.block_lt_of_cell? _ _ (hHeld.2.2.2.1))).trans (hHeld.2.2.2.1)
                                have HS4_ := (hb.cell (World.block_lt_of_cell? _ _ (hHeld.2.2.2.2.1))).trans (hHeld.2.2.2.2.1)
                                have HS5_ := (hb.cell (World.block_lt_of_cell? _ _ (hHeld.2.2.2.2.2.1))).trans (hHeld.2.2.2.2.2.1)
                                have HS6_ := (hb.cell (World.block_lt_of_cell? _ _ (hHeld.2.2.2.2.2.2.1))).trans (hHeld.2.2.2.2.2.2.1)
                                have HS7_ := (hb.cell (World.block_lt_of_cell? _ _ (hHeld.2.2.2.2.2.2.2.1))).trans (hHeld.2.2.2.2.2.2.2.1)
                                have HS8_ := (hb.cell (World.block_lt_of_cell? _ _ (hHeld.2.2.2.2.2.2.2.2.1))).trans (hHeld.2.2.2.2.2.2.2.2.1)
                                have HS9_ := (hb.cell (World.block_lt_of_cell? _ _ (hHeld.2.2.2.2.2.2.2.2.2))).trans (hHeld.2.2.2.2.2.2.2.2.2)
                                have n0_ := Aside0.mk (Kd.R_below (by (with_reducible repeat (first | apply Kd.R_alloc | apply Kd.R_drewN | apply Kd.R_drew)); exact HO_4.out) hb)
                                have n1_ := Aside0.mk (Kd.R_below (by (with_reducible repeat (first | apply Kd.R_alloc | apply Kd.R_drewN | apply Kd.R_drew)); exact HO153.out) hb)
                                have n2_ := Aside0.mk (blk_below (g := gb128) (o := .cells #[.int .i64 x129000_1, .int .i64 x129001_1, .int .i64 x129002_1, .int .i64 x129003_1, .int .i64 x129004_1, .int .i64 x129005_1, .int .i64 x129006_1, .bool x129007_1, .int .i64 x129008_1, .int .i64 x129009_1] 25 (0, 0)) (by (with_reducible repeat (first | refine blk_drewN ?_ _ | refine blk_drew ?_ | refine blk_alloc ?_ _)); exact BK128.out) hb)
                                have n3_ := Aside0.mk (below_step (by repeat (first | (with_reducible first | exact HB.out | apply below_alloc | apply pw_below_drewN | apply below_drew1 | refine below_set ?_ GE128.out) | exact HB.out)) hb)
                                have n4_ := Aside0.mk (hbox)
                                have n5_ := Aside0.mk ((by rw [hg]; exact (below_size (by repeat (first | (with_reducible first | exact HB.out | apply below_alloc | apply pw_below_drewN | apply below_drew1 | refine below_set ?_ GE128.out) | exact HB.out))) : w.heap.size ≤ gb164))
                                have n6_ := Aside0.mk ((by rw [hg]; exact (below_size (by repeat (first | (with_reducible first | exact HB.out | apply below_alloc | apply pw_below_drewN | apply below_drew1 | refine below_set ?_ GE128.out) | exact HB.out))) : w.heap.size ≤ gb164))
                                have n7_ := Aside0.mk ((by rw [hg]; exact Nat.ne_of_lt (blk_lt (g := gb128) (o := .cells #[.int .i64 x129000_1, .int .i64 x129001_1, .int .i64 x129002_1, .int .i64 x129003_1, .int .i64 x129004_1, .int .i64 x129005_1, .int .i64 x129006_1, .bool x129007_1, .int .i64 x129008_1, .int .i64 x129009_1] 25 (0, 0)) (by (with_reducible repeat (first | refine blk_drewN ?_ _ | refine blk_drew ?_ | refine blk_alloc ?_ _)); exact BK128.out)) : gb128 ≠ gb164))
                                have n8_ := Aside0.mk ((by rw [hg]; exact Nat.ne_of_gt (blk_lt (g := gb128) (o := .cells #[.int .i64 x129000_1, .int .i64 x129001_1, .int .i64 x129002_1, .int .i64 x129003_1, .int .i64 x129004_1, .int .i64 x129005_1, .int .i64 x129006_1, .bool x129007_1, .int .i64 x129008_1, .int .i64 x129009_1] 25 (0, 0)) (by (with_reducible repeat (first | refine blk_drewN ?_ _ | refine blk_drew ?_ | refine blk_alloc ?_ _)); exact BK128.out)) : gb164 ≠ gb128))
                                clear HO_4
                                clear HO153
                                clear BK128
                                clear HB
                                have HO_4 := n0_
                                have HO153 := n1_
                                have BK128 := n2_
                                have HB := n3_
                                have BK164 := n4_
                                have GW164 := n5_
                                have GE164 := n6_
                                have NB128_164 := n7_
                                have NB164_128 := n8_
                                clear n0_ n1_ n2_ n3_ n4_ n5_ n6_ n7_ n8_
                                clear hb hbox hg
                                refine hK.out _ _ ⟨HS0_, HS1_, HS2_, HS3_, HS4_, HS5_, HS6_, HS7_, HS8_, HS9_⟩ (fun hHeld => ?_)
                                clear hK K
                                refine norm_ (a' := ?_) ?_ ?_
                                rotate_left
                                · show Act.put _ (some 10) _ = _
                                  simp only [Act.put, List.setIfInBounds_toArray, List.set_cons_zero, List.set_cons_succ, i64_w, i32_w]
                                  rfl
                                refine one_ (i := 33) (N := none) #[true, true, true, true, true, true, true, true, true, true, true, true, true, true, true, true, true, true, true, true, true, true, true, true, true, true, true, true, true, true, true, true, true, true] rfl rfl (one_of HT_.out (by kernel_rfl)) (by decide) (fun K hK => ?_)
                                have hs_0 : w70.cell? ⟨gb164, 0, none⟩ = some (.int .i64 0) := (blk_cell BK164.out 0).trans rfl
                                have hf_0 := blk_frozen BK164.out 0
                                have hs_1 : w70.cell? ⟨gb164, 1, none⟩ = some (.int .i64 0) := (blk_cell BK164.out 1).trans rfl
                                have hf_1 := blk_frozen BK164.out 1
                                have hs_2 : w70.cell? ⟨gb164, 2, none⟩ = some (.int .i64 0) := (blk_cell BK164.out 2).trans rfl
                                have hf_2 := blk_frozen BK164.out 2
                                have hs_3 : w70.cell? ⟨gb164, 3, none⟩ = some (.int .i64 0) := (blk_cell BK164.out 3).trans rfl
                                have hf_3 := blk_frozen BK164.out 3
                                have hs_4 : w70.cell? ⟨gb164, 4, none⟩ = some (.int .i64 0) := (blk_cell BK164.out 4).trans rfl
                                have hf_4 := blk_frozen BK164.out 4
                                have hs_5 : w70.cell? ⟨gb164, 5, none⟩ = some (.int .i64 0) := (blk_cell BK164.out 5).trans rfl
                                have hf_5 := blk_frozen BK164.out 5
                                have hs_6 : w70.cell? ⟨gb164, 6, none⟩ = some (.int .i64 0) := (blk_cell BK164.out 6).trans rfl
                                have hf_6 := blk_frozen BK164.out 6
                                have hs_7 : w70.cell? ⟨gb164, 7, none⟩ = some (.bool false) := (blk_cell BK164.out 7).trans rfl
                                have hf_7 := blk_frozen BK164.out 7
                                have hs_8 : w70.cell? ⟨gb164, 8, none⟩ = some (.int .i64 0) := (blk_cell BK164.out 8).trans rfl
                                have hf_8 := blk_frozen BK164.out 8
                                have hs_9 : w70.cell? ⟨gb164, 9, none⟩ = some (.int .i64 0) := (blk_cell BK164.out 9).trans rfl
                                have hf_9 := blk_frozen BK164.out 9
                                refine skip_ (w1 := ?_) (by rfl) rfl ?_ ?_
                                rotate_left
                                · go_simp
                                  rfl
                                clear hs_0 hf_0 hs_1 hf_1 hs_2 hf_2 hs_3 hf_3 hs_4 hf_4 hs_5 hf_5 hs_6 hf_6 hs_7 hf_7 hs_8 hf_8 hs_9 hf_9
                                have hne_ : ad154.block ≠ gb164 := Kd.own_blk (Kd.R_ne HO_4.out BK164.out (by decide))
                                have m0_ : Aside0 (((((((((((w70.setCell ⟨gb164, 0, none⟩ (.int .i64 (rd x4_1 0))).setCell ⟨gb164, 1, none⟩ (.int .i64 (rd x4_1 1))).setCell ⟨gb164, 2, none⟩ (.int .i64 (rd x4_1 2))).setCell ⟨gb164, 3, none⟩ (.int .i64 (rd x4_1 3))).setCell ⟨gb164, 4, none⟩ (.int .i64 (rd x4_1 4))).setCell ⟨gb164, 5, none⟩ (.int .i64 (rd x4_1 5))).setCell ⟨gb164, 6, none⟩ (.int .i64 (rd x4_1 6))).setCell ⟨gb164, 7, none⟩ (.bool ((rd x4_1 7) == 1))).setCell ⟨gb164, 8, none⟩ (.int .i64 (rd x4_1 8))).setCell ⟨gb164, 9, none⟩ (.int .i64 (rd x4_1 9))).heap[gb164]? = some (.cells #[.int .i64 (rd x4_1 0), .int .i64 (rd x4_1 1), .int .i64 (rd x4_1 2), .int .i64 (rd x4_1 3), .int .i64 (rd x4_1 4), .int .i64 (rd x4_1 5), .int .i64 (rd x4_1 6), .bool ((rd x4_1 7) == 1), .int .i64 (rd x4_1 8), .int .i64 (rd x4_1 9)] 25 (0, 0))) := ⟨put10_self BK164.out (.int .i64 (rd x4_1 0)) (.int .i64 (rd x4_1 1)) (.int .i64 (rd x4_1 2)) (.int .i64 (rd x4_1 3)) (.int .i64 (rd x4_1 4)) (.int .i64 (rd x4_1 5)) (.int .i64 (rd x4_1 6)) (.bool ((rd x4_1 7) == 1)) (.int .i64 (rd x4_1 8)) (.int .i64 (rd x4_1 9))⟩
                                have m1_ : Aside0 (((((((((((w70.setCell ⟨gb164, 0, none⟩ (.int .i64 (rd x4_1 0))).setCell ⟨gb164, 1, none⟩ (.int .i64 (rd x4_1 1))).setCell ⟨gb164, 2, none⟩ (.int .i64 (rd x4_1 2))).setCell ⟨gb164, 3, none⟩ (.int .i64 (rd x4_1 3))).setCell ⟨gb164, 4, none⟩ (.int .i64 (rd x4_1 4))).setCell ⟨gb164, 5, none⟩ (.int .i64 (rd x4_1 5))).setCell ⟨gb164, 6, none⟩ (.int .i64 (rd x4_1 6))).setCell ⟨gb164, 7, none⟩ (.bool ((rd x4_1 7) == 1))).setCell ⟨gb164, 8, none⟩ (.int .i64 (rd x4_1 8))).setCell ⟨gb164, 9, none⟩ (.int .i64 (rd x4_1 9))).heap[gb128]? = some (.cells #[.int .i64 x129000_1, .int .i64 x129001_1, .int .i64 x129002_1, .int .i64 x129003_1, .int .i64 x129004_1, .int .i64 x129005_1, .int .i64 x129006_1, .bool x129007_1, .int .i64 x129008_1, .int .i64 x129009_1] 25 (0, 0))) := ⟨put10_far BK128.out NB128_164.out (.int .i64 (rd x4_1 0)) (.int .i64 (rd x4_1 1)) (.int .i64 (rd x4_1 2)) (.int .i64 (rd x4_1 3)) (.int .i64 (rd x4_1 4)) (.int .i64 (rd x4_1 5)) (.int .i64 (rd x4_1 6)) (.bool ((rd x4_1 7) == 1)) (.int .i64 (rd x4_1 8)) (.int .i64 (rd x4_1 9))⟩
                                have m2_ : Aside0 (Below w.heap.size w ((((((((((w70.setCell ⟨gb164, 0, none⟩ (.int .i64 (rd x4_1 0))).setCell ⟨gb164, 1, none⟩ (.int .i64 (rd x4_1 1))).setCell ⟨gb164, 2, none⟩ (.int .i64 (rd x4_1 2))).setCell ⟨gb164, 3, none⟩ (.int .i64 (rd x4_1 3))).setCell ⟨gb164, 4, none⟩ (.int .i64 (rd x4_1 4))).setCell ⟨gb164, 5, none⟩ (.int .i64 (rd x4_1 5))).setCell ⟨gb164, 6, none⟩ (.int .i64 (rd x4_1 6))).setCell ⟨gb164, 7, none⟩ (.bool ((rd x4_1 7) == 1))).setCell ⟨gb164, 8, none⟩ (.int .i64 (rd x4_1 8))).setCell ⟨gb164, 9, none⟩ (.int .i64 (rd x4_1 9)))) := ⟨put10_below HB.out GE164.out (.int .i64 (rd x4_1 0)) (.int .i64 (rd x4_1 1)) (.int .i64 (rd x4_1 2)) (.int .i64 (rd x4_1 3)) (.int .i64 (rd x4_1 4)) (.int .i64 (rd x4_1 5)) (.int .i64 (rd x4_1 6)) (.bool ((rd x4_1 7) == 1)) (.int .i64 (rd x4_1 8)) (.int .i64 (rd x4_1 9))⟩
                                have m3_ : ((((((((((w70.setCell ⟨gb164, 0, none⟩ (.int .i64 (rd x4_1 0))).setCell ⟨gb164, 1, none⟩ (.int .i64 (rd x4_1 1))).setCell ⟨gb164, 2, none⟩ (.int .i64 (rd x4_1 2))).setCell ⟨gb164, 3, none⟩ (.int .i64 (rd x4_1 3))).setCell ⟨gb164, 4, none⟩ (.int .i64 (rd x4_1 4))).setCell ⟨gb164, 5, none⟩ (.int .i64 (rd x4_1 5))).setCell ⟨gb164, 6, none⟩ (.int .i64 (rd x4_1 6))).setCell ⟨gb164, 7, none⟩ (.bool ((rd x4_1 7) == 1))).setCell ⟨gb164, 8, none⟩ (.int .i64 (rd x4_1 8))).setCell ⟨gb164, 9, none⟩ (.int .i64 (rd x4_1 9))).cell? ad154 = some (.int .i64 (rd x4_1 0)) ∧ ((((((((((w70.setCell ⟨gb164, 0, none⟩ (.int .i64 (rd x4_1 0))).setCell ⟨gb164, 1, none⟩ (.int .i64 (rd x4_1 1))).setCell ⟨gb164, 2, none⟩ (.int .i64 (rd x4_1 2))).setCell ⟨gb164, 3, none⟩ (.int .i64 (rd x4_1 3))).setCell ⟨gb164, 4, none⟩ (.int .i64 (rd x4_1 4))).setCell ⟨gb164, 5, none⟩ (.int .i64 (rd x4_1 5))).setCell ⟨gb164, 6, none⟩ (.int .i64 (rd x4_1 6))).setCell ⟨gb164, 7, none⟩ (.bool ((rd x4_1 7) == 1))).setCell ⟨gb164, 8, none⟩ (.int .i64 (rd x4_1 8))).setCell ⟨gb164, 9, none⟩ (.int .i64 (rd x4_1 9))).cell? ⟨ad154.block, ad154.off + 1, none⟩ = some (.int .i64 (rd x4_1 1)) ∧ ((((((((((w70.setCell ⟨gb164, 0, none⟩ (.int .i64 (rd x4_1 0))).setCell ⟨gb164, 1, none⟩ (.int .i64 (rd x4_1 1))).setCell ⟨gb164, 2, none⟩ (.int .i64 (rd x4_1 2))).setCell ⟨gb164, 3, none⟩ (.int .i64 (rd x4_1 3))).setCell ⟨gb164, 4, none⟩ (.int .i64 (rd x4_1 4))).setCell ⟨gb164, 5, none⟩ (.int .i64 (rd x4_1 5))).setCell ⟨gb164, 6, none⟩ (.int .i64 (rd x4_1 6))).setCell ⟨gb164, 7, none⟩ (.bool ((rd x4_1 7) == 1))).setCell ⟨gb164, 8, none⟩ (.int .i64 (rd x4_1 8))).setCell ⟨gb164, 9, none⟩ (.int .i64 (rd x4_1 9))).cell? ⟨ad154.block, ad154.off + 2, none⟩ = some (.int .i64 (rd x4_1 2)) ∧ ((((((((((w70.setCell ⟨gb164, 0, none⟩ (.int .i64 (rd x4_1 0))).setCell ⟨gb164, 1, none⟩ (.int .i64 (rd x4_1 1))).setCell ⟨gb164, 2, none⟩ (.int .i64 (rd x4_1 2))).setCell ⟨gb164, 3, none⟩ (.int .i64 (rd x4_1 3))).setCell ⟨gb164, 4, none⟩ (.int .i64 (rd x4_1 4))).setCell ⟨gb164, 5, none⟩ (.int .i64 (rd x4_1 5))).setCell ⟨gb164, 6, none⟩ (.int .i64 (rd x4_1 6))).setCell ⟨gb164, 7, none⟩ (.bool ((rd x4_1 7) == 1))).setCell ⟨gb164, 8, none⟩ (.int .i64 (rd x4_1 8))).setCell ⟨gb164, 9, none⟩ (.int .i64 (rd x4_1 9))).cell? ⟨ad154.block, ad154.off + 3, none⟩ = some (.int .i64 (rd x4_1 3)) ∧ ((((((((((w70.setCell ⟨gb164, 0, none⟩ (.int .i64 (rd x4_1 0))).setCell ⟨gb164, 1, none⟩ (.int .i64 (rd x4_1 1))).setCell ⟨gb164, 2, none⟩ (.int .i64 (rd x4_1 2))).setCell ⟨gb164, 3, none⟩ (.int .i64 (rd x4_1 3))).setCell ⟨gb164, 4, none⟩ (.int .i64 (rd x4_1 4))).setCell ⟨gb164, 5, none⟩ (.int .i64 (rd x4_1 5))).setCell ⟨gb164, 6, none⟩ (.int .i64 (rd x4_1 6))).setCell ⟨gb164, 7, none⟩ (.bool ((rd x4_1 7) == 1))).setCell ⟨gb164, 8, none⟩ (.int .i64 (rd x4_1 8))).setCell ⟨gb164, 9, none⟩ (.int .i64 (rd x4_1 9))).cell? ⟨ad154.block, ad154.off + 4, none⟩ = some (.int .i64 (rd x4_1 4)) ∧ ((((((((((w70.setCell ⟨gb164, 0, none⟩ (.int .i64 (rd x4_1 0))).setCell ⟨gb164, 1, none⟩ (.int .i64 (rd x4_1 1))).setCell ⟨gb164, 2, none⟩ (.int .i64 (rd x4_1 2))).setCell ⟨gb164, 3, none⟩ (.int .i64 (rd x4_1 3))).setCell ⟨gb164, 4, none⟩ (.int .i64 (rd x4_1 4))).setCell ⟨gb164, 5, none⟩ (.int .i64 (rd x4_1 5))).setCell ⟨gb164, 6, none⟩ (.int .i64 (rd x4_1 6))).setCell ⟨gb164, 7, none⟩ (.bool ((rd x4_1 7) == 1))).setCell ⟨gb164, 8, none⟩ (.int .i64 (rd x4_1 8))).setCell ⟨gb164, 9, none⟩ (.int .i64 (rd x4_1 9))).cell? ⟨ad154.block, ad154.off + 5, none⟩ = some (.int .i64 (rd x4_1 5)) ∧ ((((((((((w70.setCell ⟨gb164, 0, none⟩ (.int .i64 (rd x4_1 0))).setCell ⟨gb164, 1, none⟩ (.int .i64 (rd x4_1 1))).setCell ⟨gb164, 2, none⟩ (.int .i64 (rd x4_1 2))).setCell ⟨gb164, 3, none⟩ (.int .i64 (rd x4_1 3))).setCell ⟨gb164, 4, none⟩ (.int .i64 (rd x4_1 4))).setCell ⟨gb164, 5, none⟩ (.int .i64 (rd x4_1 5))).setCell ⟨gb164, 6, none⟩ (.int .i64 (rd x4_1 6))).setCell ⟨gb164, 7, none⟩ (.bool ((rd x4_1 7) == 1))).setCell ⟨gb164, 8, none⟩ (.int .i64 (rd x4_1 8))).setCell ⟨gb164, 9, none⟩ (.int .i64 (rd x4_1 9))).cell? ⟨ad154.block, ad154.off + 6, none⟩ = some (.int .i64 (rd x4_1 6)) ∧ ((((((((((w70.setCell ⟨gb164, 0, none⟩ (.int .i64 (rd x4_1 0))).setCell ⟨gb164, 1, none⟩ (.int .i64 (rd x4_1 1))).setCell ⟨gb164, 2, none⟩ (.int .i64 (rd x4_1 2))).setCell ⟨gb164, 3, none⟩ (.int .i64 (rd x4_1 3))).setCell ⟨gb164, 4, none⟩ (.int .i64 (rd x4_1 4))).setCell ⟨gb164, 5, none⟩ (.int .i64 (rd x4_1 5))).setCell ⟨gb164, 6, none⟩ (.int .i64 (rd x4_1 6))).setCell ⟨gb164, 7, none⟩ (.bool ((rd x4_1 7) == 1))).setCell ⟨gb164, 8, none⟩ (.int .i64 (rd x4_1 8))).setCell ⟨gb164, 9, none⟩ (.int .i64 (rd x4_1 9))).cell? ⟨ad154.block, ad154.off + 7, none⟩ = some (.int .i64 (rd x4_1 7)) ∧ ((((((((((w70.setCell ⟨gb164, 0, none⟩ (.int .i64 (rd x4_1 0))).setCell ⟨gb164, 1, none⟩ (.int .i64 (rd x4_1 1))).setCell ⟨gb164, 2, none⟩ (.int .i64 (rd x4_1 2))).setCell ⟨gb164, 3, none⟩ (.int .i64 (rd x4_1 3))).setCell ⟨gb164, 4, none⟩ (.int .i64 (rd x4_1 4))).setCell ⟨gb164, 5, none⟩ (.int .i64 (rd x4_1 5))).setCell ⟨gb164, 6, none⟩ (.int .i64 (rd x4_1 6))).setCell ⟨gb164, 7, none⟩ (.bool ((rd x4_1 7) == 1))).setCell ⟨gb164, 8, none⟩ (.int .i64 (rd x4_1 8))).setCell ⟨gb164, 9, none⟩ (.int .i64 (rd x4_1 9))).cell? ⟨ad154.block, ad154.off + 8, none⟩ = some (.int .i64 (rd x4_1 8)) ∧ ((((((((((w70.setCell ⟨gb164, 0, none⟩ (.int .i64 (rd x4_1 0))).setCell ⟨gb164, 1, none⟩ (.int .i64 (rd x4_1 1))).setCell ⟨gb164, 2, none⟩ (.int .i64 (rd x4_1 2))).setCell ⟨gb164, 3, none⟩ (.int .i64 (rd x4_1 3))).setCell ⟨gb164, 4, none⟩ (.int .i64 (rd x4_1 4))).setCell ⟨gb164, 5, none⟩ (.int .i64 (rd x4_1 5))).setCell ⟨gb164, 6, none⟩ (.int .i64 (rd x4_1 6))).setCell ⟨gb164, 7, none⟩ (.bool ((rd x4_1 7) == 1))).setCell ⟨gb164, 8, none⟩ (.int .i64 (rd x4_1 8))).setCell ⟨gb164, 9, none⟩ (.int .i64 (rd x4_1 9))).cell? ⟨ad154.block, ad154.off + 9, none⟩ = some (.int .i64 (rd x4_1 9)) := ⟨(put10_cell (w := w70) (a := ad154) hne_ (.int .i64 (rd x4_1 0)) (.int .i64 (rd x4_1 1)) (.int .i64 (rd x4_1 2)) (.int .i64 (rd x4_1 3)) (.int .i64 (rd x4_1 4)) (.int .i64 (rd x4_1 5)) (.int .i64 (rd x4_1 6)) (.bool ((rd x4_1 7) == 1)) (.int .i64 (rd x4_1 8)) (.int .i64 (rd x4_1 9))).trans hHeld.1, (put10_cell (w := w70) (a := ⟨ad154.block, ad154.off + 1, none⟩) hne_ (.int .i64 (rd x4_1 0)) (.int .i64 (rd x4_1 1)) (.int .i64 (rd x4_1 2)) (.int .i64 (rd x4_1 3)) (.int .i64 (rd x4_1 4)) (.int .i64 (rd x4_1 5)) (.int .i64 (rd x4_1 6)) (.bool ((rd x4_1 7) == 1)) (.int .i64 (rd x4_1 8)) (.int .i64 (rd x4_1 9))).trans hHeld.2.1, (put10_cell (w := w70) (a := ⟨ad154.block, ad154.off + 2, none⟩) hne_ (.int .i64 (rd x4_1 0)) (.int .i64 (rd x4_1 1)) (.int .i64 (rd x4_1 2)) (.int .i64 (rd x4_1 3)) (.int .i64 (rd x4_1 4)) (.int .i64 (rd x4_1 5)) (.int .i64 (rd x4_1 6)) (.bool ((rd x4_1 7) == 1)) (.int .i64 (rd x4_1 8)) (.int .i64 (rd x4_1 9))).trans hHeld.2.2.1, (put10_cell (w := w70) (a := ⟨ad154.block, ad154.off + 3, none⟩) hne_ (.int .i64 (rd x4_1 0)) (.int .i64 (rd x4_1 1)) (.int .i64 (rd x4_1 2)) (.int .i64 (rd x4_1 3)) (.int .i64 (rd x4_1 4)) (.int .i64 (rd x4_1 5)) (.int .i64 (rd x4_1 6)) (.bool ((rd x4_1 7) == 1)) (.int .i64 (rd x4_1 8)) (.int .i64 (rd x4_1 9))).trans hHeld.2.2.2.1, (put10_cell (w := w70) (a := ⟨ad154.block, ad154.off + 4, none⟩) hne_ (.int .i64 (rd x4_1 0)) (.int .i64 (rd x4_1 1)) (.int .i64 (rd x4_1 2)) (.int .i64 (rd x4_1 3)) (.int .i64 (rd x4_1 4)) (.int .i64 (rd x4_1 5)) (.int .i64 (rd x4_1 6)) (.bool ((rd x4_1 7) == 1)) (.int .i64 (rd x4_1 8)) (.int .i64 (rd x4_1 9))).trans hHeld.2.2.2.2.1, (put10_cell (w := w70) (a := ⟨ad154.block, ad154.off + 5, none⟩) hne_ (.int .i64 (rd x4_1 0)) (.int .i64 (rd x4_1 1)) (.int .i64 (rd x4_1 2)) (.int .i64 (rd x4_1 3)) (.int .i64 (rd x4_1 4)) (.int .i64 (rd x4_1 5)) (.int .i64 (rd x4_1 6)) (.bool ((rd x4_1 7) == 1)) (.int .i64 (rd x4_1 8)) (.int .i64 (rd x4_1 9))).trans hHeld.2.2.2.2.2.1, (put10_cell (w := w70) (a := ⟨ad154.block, ad154.off + 6, none⟩) hne_ (.int .i64 (rd x4_1 0)) (.int .i64 (rd x4_1 1)) (.int .i64 (rd x4_1 2)) (.int .i64 (rd x4_1 3)) (.int .i64 (rd x4_1 4)) (.int .i64 (rd x4_1 5)) (.int .i64 (rd x4_1 6)) (.bool ((rd x4_1 7) == 1)) (.int .i64 (rd x4_1 8)) (.int .i64 (rd x4_1 9))).trans hHeld.2.2.2.2.2.2.1, (put10_cell (w := w70) (a := ⟨ad154.block, ad154.off + 7, none⟩) hne_ (.int .i64 (rd x4_1 0)) (.int .i64 (rd x4_1 1)) (.int .i64 (rd x4_1 2)) (.int .i64 (rd x4_1 3)) (.int .i64 (rd x4_1 4)) (.int .i64 (rd x4_1 5)) (.int .i64 (rd x4_1 6)) (.bool ((rd x4_1 7) == 1)) (.int .i64 (rd x4_1 8)) (.int .i64 (rd x4_1 9))).trans hHeld.2.2.2.2.2.2.2.1, (put10_cell (w := w70) (a := ⟨ad154.block, ad154.off + 8, none⟩) hne_ (.int .i64 (rd x4_1 0)) (.int .i64 (rd x4_1 1)) (.int .i64 (rd x4_1 2)) (.int .i64 (rd x4_1 3)) (.int .i64 (rd x4_1 4)) (.int .i64 (rd x4_1 5)) (.int .i64 (rd x4_1 6)) (.bool ((rd x4_1 7) == 1)) (.int .i64 (rd x4_1 8)) (.int .i64 (rd x4_1 9))).trans hHeld.2.2.2.2.2.2.2.2.1, (put10_cell (w := w70) (a := ⟨ad154.block, ad154.off + 9, none⟩) hne_ (.int .i64 (rd x4_1 0)) (.int .i64 (rd x4_1 1)) (.int .i64 (rd x4_1 2)) (.int .i64 (rd x4_1 3)) (.int .i64 (rd x4_1 4)) (.int .i64 (rd x4_1 5)) (.int .i64 (rd x4_1 6)) (.bool ((rd x4_1 7) == 1)) (.int .i64 (rd x4_1 8)) (.int .i64 (rd x4_1 9))).trans hHeld.2.2.2.2.2.2.2.2.2⟩
                                clear BK164 BK128 HB HO_4 HO153 hHeld
                                generalize ((((((((((w70.setCell ⟨gb164, 0, none⟩ (.int .i64 (rd x4_1 0))).setCell ⟨gb164, 1, none⟩ (.int .i64 (rd x4_1 1))).setCell ⟨gb164, 2, none⟩ (.int .i64 (rd x4_1 2))).setCell ⟨gb164, 3, none⟩ (.int .i64 (rd x4_1 3))).setCell ⟨gb164, 4, none⟩ (.int .i64 (rd x4_1 4))).setCell ⟨gb164, 5, none⟩ (.int .i64 (rd x4_1 5))).setCell ⟨gb164, 6, none⟩ (.int .i64 (rd x4_1 6))).setCell ⟨gb164, 7, none⟩ (.bool ((rd x4_1 7) == 1))).setCell ⟨gb164, 8, none⟩ (.int .i64 (rd x4_1 8))).setCell ⟨gb164, 9, none⟩ (.int .i64 (rd x4_1 9))) = w70p at m0_ m1_ m2_ m3_ ⊢
                                have BK164 := m0_
                                have BK128 := m1_
                                have HB := m2_
                                have HO_4 := Aside0.mk trivial
                                have HO153 := Aside0.mk trivial
                                refine hK.out _ _ m3_ (fun hHeld => ?_)
                                clear hK K m0_ m1_ m2_ m3_
                                refine done_ (done_of HT_.out (by kernel_rfl)) ?_
                                have hnb81 := NB164_128.out
                                have hnc81 := NB128_164.out
                                have hcz_0 : w70p.cell? ⟨gb164, 0, none⟩ = some (.int .i64 (rd x4_1 0)) := (blk_cell BK164.out 0).trans rfl
                                have hcz_1 : w70p.cell? ⟨gb164, 1, none⟩ = some (.int .i64 (rd x4_1 1)) := (blk_cell BK164.out 1).trans rfl
                                have hcz_2 : w70p.cell? ⟨gb164, 2, none⟩ = some (.int .i64 (rd x4_1 2)) := (blk_cell BK164.out 2).trans rfl
                                have hcz_3 : w70p.cell? ⟨gb164, 3, none⟩ = some (.int .i64 (rd x4_1 3)) := (blk_cell BK164.out 3).trans rfl
                                have hcz_4 : w70p.cell? ⟨gb164, 4, none⟩ = some (.int .i64 (rd x4_1 4)) := (blk_cell BK164.out 4).trans rfl
                                have hcz_5 : w70p.cell? ⟨gb164, 5, none⟩ = some (.int .i64 (rd x4_1 5)) := (blk_cell BK164.out 5).trans rfl
                                have hcz_6 : w70p.cell? ⟨gb164, 6, none⟩ = some (.int .i64 (rd x4_1 6)) := (blk_cell BK164.out 6).trans rfl
                                have hcz_7 : w70p.cell? ⟨gb164, 7, none⟩ = some (.bool ((rd x4_1 7) == 1)) := (blk_cell BK164.out 7).trans rfl
                                have hcz_8 : w70p.cell? ⟨gb164, 8, none⟩ = some (.int .i64 (rd x4_1 8)) := (blk_cell BK164.out 8).trans rfl
                                have hcz_9 : w70p.cell? ⟨gb164, 9, none⟩ = some (.int .i64 (rd x4_1 9)) := (blk_cell BK164.out 9).trans rfl
                                have hfz82_0 := blk_frozen BK164.out 0
                                have hfz82_1 := blk_frozen BK164.out 1
                                have hfz82_2 := blk_frozen BK164.out 2
                                have hfz82_3 := blk_frozen BK164.out 3
                                have hfz82_4 := blk_frozen BK164.out 4
                                have hfz82_5 := blk_frozen BK164.out 5
                                have hfz82_6 := blk_frozen BK164.out 6
                                have hfz82_7 := blk_frozen BK164.out 7
                                have hfz82_8 := blk_frozen BK164.out 8
                                have hfz82_9 := blk_frozen BK164.out 9
                                try go_wp2_with (first | ((with_reducible refine gate_callee (f := 14) rfl ?_); refine goesL_ (some 110) rfl rfl Tryd.func14 (by kernel_rfl) rfl #[.agg #[.int .i64 (rd x4_1 0), .int .i64 (rd x4_1 1), .int .i64 (rd x4_1 2), .int .i64 (rd x4_1 3), .int .i64 (rd x4_1 4), .int .i64 (rd x4_1 5), .int .i64 (rd x4_1 6), .bool ((rd x4_1 7) == 1), .int .i64 (rd x4_1 8), .int .i64 (rd x4_1 9)]] rfl (by (try simp only [List.map_toArray, List.map_cons, List.map_nil]); first | done | rfl | (simp only [List.length_drop, List.length_take]; rfl)) ?_; (with_reducible refine (spec_JobOk.calls k1 (rd x4_1 0) (rd x4_1 1) (rd x4_1 2) (rd x4_1 3) (rd x4_1 4) (rd x4_1 5) (rd x4_1 6) ((rd x4_1 7) == 1) (rd x4_1 8) (rd x4_1 9) true _ A64.out).mono ?_); rintro e w83 ⟨rfl, hb⟩; refine ⟨_, rfl, ?_⟩; have n0_ := Aside0.mk trivial; have n1_ := Aside0.mk trivial; have n2_ := Aside0.mk (blk_below (g := gb128) (o := .cells #[.int .i64 x129000_1, .int .i64 x129001_1, .int .i64 x129002_1, .int .i64 x129003_1, .int .i64 x129004_1, .int .i64 x129005_1, .int .i64 x129006_1, .bool x129007_1, .int .i64 x129008_1, .int .i64 x129009_1] 25 (0, 0)) BK128.out hb); have n3_ := Aside0.mk (blk_below (g := gb164) (o := .cells #[.int .i64 (rd x4_1 0), .int .i64 (rd x4_1 1), .int .i64 (rd x4_1 2), .int .i64 (rd x4_1 3), .int .i64 (rd x4_1 4), .int .i64 (rd x4_1 5), .int .i64 (rd x4_1 6), .bool ((rd x4_1 7) == 1), .int .i64 (rd x4_1 8), .int .i64 (rd x4_1 9)] 25 (0, 0)) BK164.out hb); have n4_ := Aside0.mk (below_step (by repeat (first | (with_reducible first | exact HB.out | apply below_alloc | apply pw_below_drewN | apply below_drew1 | refine below_set ?_ GE128.out | refine below_set ?_ GE164.out) | exact HB.out)) hb); clear HO_4; clear HO153; clear BK128; clear BK164; clear HB; have HO_4 := n0_; have HO153 := n1_; have BK128 := n2_; have BK164 := n3_; have HB := n4_; clear n0_ n1_ n2_ n3_ n4_; (try clear hb); (try clear hb2); (try clear hk); (try clear hi); have hcz84_0 : w83.cell? ⟨gb164, 0, none⟩ = some (.int .i64 (rd x4_1 0)) := (blk_cell BK164.out 0).trans rfl; have hcz84_1 : w83.cell? ⟨gb164, 1, none⟩ = some (.int .i64 (rd x4_1 1)) := (blk_cell BK164.out 1).trans rfl; have hcz84_2 : w83.cell? ⟨gb164, 2, none⟩ = some (.int .i64 (rd x4_1 2)) := (blk_cell BK164.out 2).trans rfl; have hcz84_3 : w83.cell? ⟨gb164, 3, none⟩ = some (.int .i64 (rd x4_1 3)) := (blk_cell BK164.out 3).trans rfl; have hcz84_4 : w83.cell? ⟨gb164, 4, none⟩ = some (.int .i64 (rd x4_1 4)) := (blk_cell BK164.out 4).trans rfl; have hcz84_5 : w83.cell? ⟨gb164, 5, none⟩ = some (.int .i64 (rd x4_1 5)) := (blk_cell BK164.out 5).trans rfl; have hcz84_6 : w83.cell? ⟨gb164, 6, none⟩ = some (.int .i64 (rd x4_1 6)) := (blk_cell BK164.out 6).trans rfl; have hcz84_7 : w83.cell? ⟨gb164, 7, none⟩ = some (.bool ((rd x4_1 7) == 1)) := (blk_cell BK164.out 7).trans rfl; have hcz84_8 : w83.cell? ⟨gb164, 8, none⟩ = some (.int .i64 (rd x4_1 8)) := (blk_cell BK164.out 8).trans rfl; have hcz84_9 : w83.cell? ⟨gb164, 9, none⟩ = some (.int .i64 (rd x4_1 9)) := (blk_cell BK164.out 9).trans rfl; have hfz84_0 := blk_frozen BK164.out 0; have hfz84_1 := blk_frozen BK164.out 1; have hfz84_2 := blk_frozen BK164.out 2; have hfz84_3 := blk_frozen BK164.out 3; have hfz84_4 := blk_frozen BK164.out 4; have hfz84_5 := blk_frozen BK164.out 5; have hfz84_6 := blk_frozen BK164.out 6; have hfz84_7 := blk_frozen BK164.out 7; have hfz84_8 := blk_frozen BK164.out 8; have hfz84_9 := blk_frozen BK164.out 9; have hcz85_0 : w83.cell? ⟨gb128, 0, none⟩ = some (.int .i64 x129000_1) := (blk_cell BK128.out 0).trans rfl; have hcz85_1 : w83.cell? ⟨gb128, 1, none⟩ = some (.int .i64 x129001_1) := (blk_cell BK128.out 1).trans rfl; have hcz85_2 : w83.cell? ⟨gb128, 2, none⟩ = some (.int .i64 x129002_1) := (blk_cell BK128.out 2).trans rfl; have hcz85_3 : w83.cell? ⟨gb128, 3, none⟩ = some (.int .i64 x129003_1) := (blk_cell BK128.out 3).trans rfl; have hcz85_4 : w83.cell? ⟨gb128, 4, none⟩ = some (.int .i64 x129004_1) := (blk_cell BK128.out 4).trans rfl; have hcz85_5 : w83.cell? ⟨gb128, 5, none⟩ = some (.int .i64 x129005_1) := (blk_cell BK128.out 5).trans rfl; have hcz85_6 : w83.cell? ⟨gb128, 6, none⟩ = some (.int .i64 x129006_1) := (blk_cell BK128.out 6).trans rfl; have hcz85_7 : w83.cell? ⟨gb128, 7, none⟩ = some (.bool x129007_1) := (blk_cell BK128.out 7).trans rfl; have hcz85_8 : w83.cell? ⟨gb128, 8, none⟩ = some (.int .i64 x129008_1) := (blk_cell BK128.out 8).trans rfl; have hcz85_9 : w83.cell? ⟨gb128, 9, none⟩ = some (.int .i64 x129009_1) := (blk_cell BK128.out 9).trans rfl; have hfz85_0 := blk_frozen BK128.out 0; have hfz85_1 := blk_frozen BK128.out 1; have hfz85_2 := blk_frozen BK128.out 2; have hfz85_3 := blk_frozen BK128.out 3; have hfz85_4 := blk_frozen BK128.out 4; have hfz85_5 := blk_frozen BK128.out 5; have hfz85_6 := blk_frozen BK128.out 6; have hfz85_7 := blk_frozen BK128.out 7; have hfz85_8 := blk_frozen BK128.out 8; have hfz85_9 := blk_frozen BK128.out 9))
                                refine bodyPost_ret (results_ct rfl _ _ gb128 25 #[.int .i64 (rd x4_1 0), .int .i64 (rd x4_1 1), .int .i64 (rd x4_1 2), .int .i64 (rd x4_1 3), .int .i64 (rd x4_1 4), .int .i64 (rd x4_1 5), .int .i64 (rd x4_1 6), .bool ((rd x4_1 7) == 1), .int .i64 (rd x4_1 8), .int .i64 (rd x4_1 9)] (0, 0) _ rfl (by (with_reducible repeat (first | refine blk_drewN ?_ _ | refine blk_drew ?_ | refine blk_alloc ?_ _)); refine blk_put (cs := #[.int .i64 (rd x4_1 0), .int .i64 (rd x4_1 1), .int .i64 (rd x4_1 2), .int .i64 (rd x4_1 3), .int .i64 (rd x4_1 4), .int .i64 (rd x4_1 5), .int .i64 (rd x4_1 6), .bool ((rd x4_1 7) == 1), .int .i64 (rd x4_1 8), .int .i64 x129009_1]) ?_ 9 _ rfl; (with_reducible repeat (first | refine blk_drewN ?_ _ | refine blk_drew ?_ | refine blk_alloc ?_ _)); refine blk_put (cs := #[.int .i64 (rd x4_1 0), .int .i64 (rd x4_1 1), .int .i64 (rd x4_1 2), .int .i64 (rd x4_1 3), .int .i64 (rd x4_1 4), .int .i64 (rd x4_1 5), .int .i64 (rd x4_1 6), .bool ((rd x4_1 7) == 1), .int .i64 x129008_1, .int .i64 x129009_1]) ?_ 8 _ rfl; (with_reducible repeat (first | refine blk_drewN ?_ _ | refine blk_drew ?_ | refine blk_alloc ?_ _)); refine blk_put (cs := #[.int .i64 (rd x4_1 0), .int .i64 (rd x4_1 1), .int .i64 (rd x4_1 2), .int .i64 (rd x4_1 3), .int .i64 (rd x4_1 4), .int .i64 (rd x4_1 5), .int .i64 (rd x4_1 6), .bool x129007_1, .int .i64 x129008_1, .int .i64 x129009_1]) ?_ 7 _ rfl; (with_reducible repeat (first | refine blk_drewN ?_ _ | refine blk_drew ?_ | refine blk_alloc ?_ _)); refine blk_put (cs := #[.int .i64 (rd x4_1 0), .int .i64 (rd x4_1 1), .int .i64 (rd x4_1 2), .int .i64 (rd x4_1 3), .int .i64 (rd x4_1 4), .int .i64 (rd x4_1 5), .int .i64 x129006_1, .bool x129007_1, .int .i64 x129008_1, .int .i64 x129009_1]) ?_ 6 _ rfl; (with_reducible repeat (first | refine blk_drewN ?_ _ | refine blk_drew ?_ | refine blk_alloc ?_ _)); refine blk_put (cs := #[.int .i64 (rd x4_1 0), .int .i64 (rd x4_1 1), .int .i64 (rd x4_1 2), .int .i64 (rd x4_1 3), .int .i64 (rd x4_1 4), .int .i64 x129005_1, .int .i64 x129006_1, .bool x129007_1, .int .i64 x129008_1, .int .i64 x129009_1]) ?_ 5 _ rfl; (with_reducible repeat (first | refine blk_drewN ?_ _ | refine blk_drew ?_ | refine blk_alloc ?_ _)); refine blk_put (cs := #[.int .i64 (rd x4_1 0), .int .i64 (rd x4_1 1), .int .i64 (rd x4_1 2), .int .i64 (rd x4_1 3), .int .i64 x129004_1, .int .i64 x129005_1, .int .i64 x129006_1, .bool x129007_1, .int .i64 x129008_1, .int .i64 x129009_1]) ?_ 4 _ rfl; (with_reducible repeat (first | refine blk_drewN ?_ _ | refine blk_drew ?_ | refine blk_alloc ?_ _)); refine blk_put (cs := #[.int .i64 (rd x4_1 0), .int .i64 (rd x4_1 1), .int .i64 (rd x4_1 2), .int .i64 x129003_1, .int .i64 x129004_1, .int .i64 x129005_1, .int .i64 x129006_1, .bool x129007_1, .int .i64 x129008_1, .int .i64 x129009_1]) ?_ 3 _ rfl; (with_reducible repeat (first | refine blk_drewN ?_ _ | refine blk_drew ?_ | refine blk_alloc ?_ _)); refine blk_put (cs := #[.int .i64 (rd x4_1 0), .int .i64 (rd x4_1 1), .int .i64 x129002_1, .int .i64 x129003_1, .int .i64 x129004_1, .int .i64 x129005_1, .int .i64 x129006_1, .bool x129007_1, .int .i64 x129008_1, .int .i64 x129009_1]) ?_ 2 _ rfl; (with_reducible repeat (first | refine blk_drewN ?_ _ | refine blk_drew ?_ | refine blk_alloc ?_ _)); refine blk_put (cs := #[.int .i64 (rd x4_1 0), .int .i64 x129001_1, .int .i64 x129002_1, .int .i64 x129003_1, .int .i64 x129004_1, .int .i64 x129005_1, .int .i64 x129006_1, .bool x129007_1, .int .i64 x129008_1, .int .i64 x129009_1]) ?_ 1 _ rfl; (with_reducible repeat (first | refine blk_drewN ?_ _ | refine blk_drew ?_ | refine blk_alloc ?_ _)); refine blk_put (cs := #[.int .i64 x129000_1, .int .i64 x129001_1, .int .i64 x129002_1, .int .i64 x129003_1, .int .i64 x129004_1, .int .i64 x129005_1, .int .i64 x129006_1, .bool x129007_1, .int .i64 x129008_1, .int .i64 x129009_1]) ?_ 0 _ rfl; (with_reducible repeat (first | refine blk_drewN ?_ _ | refine blk_drew ?_ | refine blk_alloc ?_ _)); exact BK128.out) Tryd.underlying25 rfl (by kernel_rfl)) rfl ?_
                                exact ⟨by first | rfl | (simp [errW_none, errW_some] <;> rfl) | (simp [*, errW_none, errW_some] <;> rfl), by repeat (first | (with_reducible first | exact HB.out | apply below_alloc | apply pw_below_drewN | apply below_drew1 | refine below_set ?_ GE128.out | refine below_set ?_ GE164.out) | exact HB.out)⟩
                              · replace c65 := Bool.eq_false_iff.mpr c65
                                subst c65
                                have H1 : (some (0, 0, 0, 0, 0, 0, 0, false, 0, 0, wrap64 ((l0.length : Int) + 1))) = some (r1, r2, r3, r4, r5, r6, r7, r8, r9, r10, r11) := by rw [if_neg (show ¬ (false = true) by decide)] at H; exact H
                                clear H
                                have H := H1
                                clear H1
                                simp only [Option.some.injEq, Prod.mk.injEq] at H
                                obtain ⟨rfl, rfl, rfl, rfl, rfl, rfl, rfl, rfl, rfl, rfl, rfl⟩ := H
                                obtain ⟨Ao86, co86, eo86⟩ := Kd.R_slice HO_4.out
                                subst eo86
                                try go_wp2_with (first | ((with_reducible refine gate_callee (f := 11) rfl ?_); refine goesL_ (some 70) rfl rfl Tryd.func11 (by kernel_rfl) rfl #[] rfl (by (try simp only [List.map_toArray, List.map_cons, List.map_nil]); first | done | rfl | (simp only [List.length_drop, List.length_take]; rfl)) ?_; (with_reducible refine (spec_l4Names.calls  t151 _ A48.out).mono ?_); rintro e w87 ⟨v152, rfl, ho0, hb⟩; refine ⟨_, rfl, ?_⟩; have n0_ := Aside0.mk (Kd.R_below (by (with_reducible repeat (first | apply Kd.R_alloc | apply Kd.R_drewN | apply Kd.R_drew)); exact HO_4.out) hb); have n1_ := Aside0.mk (Kd.R_lower ho0 (below_size (by repeat (first | (with_reducible first | exact HB.out | apply below_alloc | apply pw_below_drewN | apply below_drew1 | refine below_set ?_ GE128.out) | exact HB.out)))); have n2_ := Aside0.mk (blk_below (g := gb128) (o := .cells #[.int .i64 x129000_1, .int .i64 x129001_1, .int .i64 x129002_1, .int .i64 x129003_1, .int .i64 x129004_1, .int .i64 x129005_1, .int .i64 x129006_1, .bool x129007_1, .int .i64 x129008_1, .int .i64 x129009_1] 25 (0, 0)) (by (with_reducible repeat (first | refine blk_drewN ?_ _ | refine blk_drew ?_ | refine blk_alloc ?_ _)); exact BK128.out) hb); have n3_ := Aside0.mk (below_step (by repeat (first | (with_reducible first | exact HB.out | apply below_alloc | apply pw_below_drewN | apply below_drew1 | refine below_set ?_ GE128.out) | exact HB.out)) hb); clear HO_4; clear BK128; clear HB; have HO_4 := n0_; have HO153 := n1_; have BK128 := n2_; have HB := n3_; clear n0_ n1_ n2_ n3_; (try clear hb); (try clear hb2); (try clear hk); (try clear hi); (try clear ho0); obtain ⟨Ao88, co88, eo88⟩ := Kd.R_slice HO153.out; subst eo88))
                                have n0_ := Aside0.mk (Kd.R_drew HO_4.out)
                                have n1_ := Aside0.mk (Kd.R_drew HO153.out)
                                have n2_ := Aside0.mk (blk_drew BK128.out)
                                have n3_ := Aside0.mk (below_drew1 HB.out)
                                clear HO_4
                                clear HO153
                                clear BK128
                                clear HB
                                have HO_4 := n0_
                                have HO153 := n1_
                                have BK128 := n2_
                                have HB := n3_
                                clear n0_ n1_ n2_ n3_
                                have p154 : 0 ≤ (0 : Int) := (by omega)
                                have q154 : 0 < (x4_1.length : Int) := of_decide_eq_true (by first | (with_reducible assumption) | assumption)
                                obtain ⟨ad154, e154, hx154_0⟩ := Kd.at_int (Kd.R_reads' HO_4.out).2.2 0 p154 q154
                                cases e154
                                have qi154 : (0 < x4_1.length) = True := eq_true (by omega)
                                (try rw [show ((0 : Int)).toNat = 0 from rfl] at hx154_0)
                                (try rw [Addr.add_zero'] at hx154_0)
                                replace p154 := eq_true p154
                                replace q154 := eq_true q154
                                have p155 : 0 ≤ (1 : Int) := (by omega)
                                have q155 : 1 < (x4_1.length : Int) := of_decide_eq_true (by first | (with_reducible assumption) | assumption)
                                obtain ⟨ad155, e155, hx155_0⟩ := Kd.at_int (Kd.R_reads' HO_4.out).2.2 1 p155 q155
                                obtain rfl : ad154 = ad155 := (by injection e155)
                                (try simp only [show (1 : Int).toNat = 1 from rfl, Nat.reduceMul, Nat.reduceEqDiff, Go.Addr.add, ↓reduceIte] at hx155_0)
                                have qi155 : (1 < x4_1.length) = True := eq_true (by omega)
                                (try rw [show ((1 : Int)).toNat = 1 from rfl] at hx155_0)
                                replace p155 := eq_true p155
                                replace q155 := eq_true q155
                                have p156 : 0 ≤ (2 : Int) := (by omega)
                                have q156 : 2 < (x4_1.length : Int) := of_decide_eq_true (by first | (with_reducible assumption) | assumption)
                                obtain ⟨ad156, e156, hx156_0⟩ := Kd.at_int (Kd.R_reads' HO_4.out).2.2 2 p156 q156
                                obtain rfl : ad154 = ad156 := (by injection e156)
                                (try simp only [show (2 : Int).toNat = 2 from rfl, Nat.reduceMul, Nat.reduceEqDiff, Go.Addr.add, ↓reduceIte] at hx156_0)
                                have qi156 : (2 < x4_1.length) = True := eq_true (by omega)
                                (try rw [show ((2 : Int)).toNat = 2 from rfl] at hx156_0)
                                replace p156 := eq_true p156
                                replace q156 := eq_true q156
                                have p157 : 0 ≤ (3 : Int) := (by omega)
                                have q157 : 3 < (x4_1.length : Int) := of_decide_eq_true (by first | (with_reducible assumption) | assumption)
                                obtain ⟨ad157, e157, hx157_0⟩ := Kd.at_int (Kd.R_reads' HO_4.out).2.2 3 p157 q157
                                obtain rfl : ad154 = ad157 := (by injection e157)
                                (try simp only [show (3 : Int).toNat = 3 from rfl, Nat.reduceMul, Nat.reduceEqDiff, Go.Addr.add, ↓reduceIte] at hx157_0)
                                have qi157 : (3 < x4_1.length) = True := eq_true (by omega)
                                (try rw [show ((3 : Int)).toNat = 3 from rfl] at hx157_0)
                                replace p157 := eq_true p157
                                replace q157 := eq_true q157
                                have p158 : 0 ≤ (4 : Int) := (by omega)
                                have q158 : 4 < (x4_1.length : Int) := of_decide_eq_true (by first | (with_reducible assumption) | assumption)
                                obtain ⟨ad158, e158, hx158_0⟩ := Kd.at_int (Kd.R_reads' HO_4.out).2.2 4 p158 q158
                                obtain rfl : ad154 = ad158 := (by injection e158)
                                (try simp only [show (4 : Int).toNat = 4 from rfl, Nat.reduceMul, Nat.reduceEqDiff, Go.Addr.add, ↓reduceIte] at hx158_0)
                                have qi158 : (4 < x4_1.length) = True := eq_true (by omega)
                                (try rw [show ((4 : Int)).toNat = 4 from rfl] at hx158_0)
                                replace p158 := eq_true p158
                                replace q158 := eq_true q158
                                have p159 : 0 ≤ (5 : Int) := (by omega)
                                have q159 : 5 < (x4_1.length : Int) := of_decide_eq_true (by first | (with_reducible assumption) | assumption)
                                obtain ⟨ad159, e159, hx159_0⟩ := Kd.at_int (Kd.R_reads' HO_4.out).2.2 5 p159 q159
                                obtain rfl : ad154 = ad159 := (by injection e159)
                                (try simp only [show (5 : Int).toNat = 5 from rfl, Nat.reduceMul, Nat.reduceEqDiff, Go.Addr.add, ↓reduceIte] at hx159_0)
                                have qi159 : (5 < x4_1.length) = True := eq_true (by omega)
                                (try rw [show ((5 : Int)).toNat = 5 from rfl] at hx159_0)
                                replace p159 := eq_true p159
                                replace q159 := eq_true q159
                                have p160 : 0 ≤ (6 : Int) := (by omega)
                                have q160 : 6 < (x4_1.length : Int) := of_decide_eq_true (by first | (with_reducible assumption) | assumption)
                                obtain ⟨ad160, e160, hx160_0⟩ := Kd.at_int (Kd.R_reads' HO_4.out).2.2 6 p160 q160
                                obtain rfl : ad154 = ad160 := (by injection e160)
                                (try simp only [show (6 : Int).toNat = 6 from rfl, Nat.reduceMul, Nat.reduceEqDiff, Go.Addr.add, ↓reduceIte] at hx160_0)
                                have qi160 : (6 < x4_1.length) = True := eq_true (by omega)
                                (try rw [show ((6 : Int)).toNat = 6 from rfl] at hx160_0)
                                replace p160 := eq_true p160
                                replace q160 := eq_true q160
                                have p161 : 0 ≤ (7 : Int) := (by omega)
                                have q161 : 7 < (x4_1.length : Int) := of_decide_eq_true (by first | (with_reducible assumption) | assumption)
                                obtain ⟨ad161, e161, hx161_0⟩ := Kd.at_int (Kd.R_reads' HO_4.out).2.2 7 p161 q161
                                obtain rfl : ad154 = ad161 := (by injection e161)
                                (try simp only [show (7 : Int).toNat = 7 from rfl, Nat.reduceMul, Nat.reduceEqDiff, Go.Addr.add, ↓reduceIte] at hx161_0)
                                have qi161 : (7 < x4_1.length) = True := eq_true (by omega)
                                (try rw [show ((7 : Int)).toNat = 7 from rfl] at hx161_0)
                                replace p161 := eq_true p161
                                replace q161 := eq_true q161
                                have p162 : 0 ≤ (8 : Int) := (by omega)
                                have q162 : 8 < (x4_1.length : Int) := of_decide_eq_true (by first | (with_reducible assumption) | assumption)
                                obtain ⟨ad162, e162, hx162_0⟩ := Kd.at_int (Kd.R_reads' HO_4.out).2.2 8 p162 q162
                                obtain rfl : ad154 = ad162 := (by injection e162)
                                (try simp only [show (8 : Int).toNat = 8 from rfl, Nat.reduceMul, Nat.reduceEqDiff, Go.Addr.add, ↓reduceIte] at hx162_0)
                                have qi162 : (8 < x4_1.length) = True := eq_true (by omega)
                                (try rw [show ((8 : Int)).toNat = 8 from rfl] at hx162_0)
                                replace p162 := eq_true p162
                                replace q162 := eq_true q162
                                have p163 : 0 ≤ (9 : Int) := (by omega)
                                have q163 : 9 < (x4_1.length : Int) := of_decide_eq_true (by first | (with_reducible assumption) | assumption)
                                obtain ⟨ad163, e163, hx163_0⟩ := Kd.at_int (Kd.R_reads' HO_4.out).2.2 9 p163 q163
                                obtain rfl : ad154 = ad163 := (by injection e163)
                                (try simp only [show (9 : Int).toNat = 9 from rfl, Nat.reduceMul, Nat.reduceEqDiff, Go.Addr.add, ↓reduceIte] at hx163_0)
                                have qi163 : (9 < x4_1.length) = True := eq_true (by omega)
                                (try rw [show ((9 : Int)).toNat = 9 from rfl] at hx163_0)
                                replace p163 := eq_true p163
                                replace q163 := eq_true q163
                                refine start_ (n := 34) (S := fun w' => w'.cell? ad154 = some (.int .i64 (rd x4_1 0)) ∧ w'.cell? ⟨ad154.block, ad154.off + 1, none⟩ = some (.int .i64 (rd x4_1 1)) ∧ w'.cell? ⟨ad154.block, ad154.off + 2, none⟩ = some (.int .i64 (rd x4_1 2)) ∧ w'.cell? ⟨ad154.block, ad154.off + 3, none⟩ = some (.int .i64 (rd x4_1 3)) ∧ w'.cell? ⟨ad154.block, ad154.off + 4, none⟩ = some (.int .i64 (rd x4_1 4)) ∧ w'.cell? ⟨ad154.block, ad154.off + 5, none⟩ = some (.int .i64 (rd x4_1 5)) ∧ w'.cell? ⟨ad154.block, ad154.off + 6, none⟩ = some (.int .i64 (rd x4_1 6)) ∧ w'.cell? ⟨ad154.block, ad154.off + 7, none⟩ = some (.int .i64 (rd x4_1 7)) ∧ w'.cell? ⟨ad154.block, ad154.off + 8, none⟩ = some (.int .i64 (rd x4_1 8)) ∧ w'.cell? ⟨ad154.block, ad154.off + 9, none⟩ = some (.int .i64 (rd x4_1 9))) (ds := []) #[false, false, false, false, false, false, false, false, false, false, false, false, false, false, false, false, false, false, false, false, false, false, false, false, false, false, false, false, false, false, false, false, false, false] (by kernel_rfl) rfl rfl ⟨hx154_0, hx155_0, hx156_0, hx157_0, hx158_0, hx159_0, hx160_0, hx161_0, hx162_0, hx163_0⟩ (fun hHeld => ?_); refine with_tabW spec_JobParse.tab15 spec_JobParse.bits15 (fun HT_ HW_ => ?_)
                                generalize w87.drew = w89 at HO_4 HO153 BK128 HB hx154_0 hx155_0 hx156_0 hx157_0 hx158_0 hx159_0 hx160_0 hx161_0 hx162_0 hx163_0 hHeld ⊢
                                refine pure_ (i := 0) (N := some 77) (v := ?_) (a' := ?_) #[true, false, false, false, false, false, false, false, false, false, false, false, false, false, false, false, false, false, false, false, false, false, false, false, false, false, false, false, false, false, false, false, false, false] rfl rfl (any_of HT_.out (by kernel_rfl)) (fun _ _ _ h => h) (Or.inl ⟨by rfl, ?_⟩) ?_ ?_
                                rotate_left
                                · intro w'
                                  go_simp
                                  with_reducible rfl
                                rotate_left
                                · simp only [Act.put, List.setIfInBounds_toArray, List.set_cons_zero, List.set_cons_succ, i64_w, i32_w]
                                  rfl
                                refine pure_ (i := 1) (N := some 78) (v := ?_) (a' := ?_) #[true, true, false, false, false, false, false, false, false, false, false, false, false, false, false, false, false, false, false, false, false, false, false, false, false, false, false, false, false, false, false, false, false, false] rfl rfl (any_of HT_.out (by kernel_rfl)) (fun _ _ _ h => h) (Or.inl ⟨by rfl, ?_⟩) ?_ ?_
                                rotate_left
                                · intro w'
                                  go_simp
                                  with_reducible rfl
                                rotate_left
                                · simp only [Act.put, List.setIfInBounds_toArray, List.set_cons_zero, List.set_cons_succ, i64_w, i32_w]
                                  rfl
                                refine pure_ (i := 3) (N := some 80) (v := ?_) (a' := ?_) #[true, true, false, true, false, false, false, false, false, false, false, false, false, false, false, false, false, false, false, false, false, false, false, false, false, false, false, false, false, false, false, false, false, false] rfl rfl (any_of HT_.out (by kernel_rfl)) (fun _ _ _ h => h) (Or.inl ⟨by rfl, ?_⟩) ?_ ?_
                                rotate_left
                                · intro w'
                                  go_simp
                                  with_reducible rfl
                                rotate_left
                                · simp only [Act.put, List.setIfInBounds_toArray, List.set_cons_zero, List.set_cons_succ, i64_w, i32_w]
                                  rfl
                                refine pure_ (i := 4) (N := some 81) (v := ?_) (a' := ?_) #[true, true, false, true, true, false, false, false, false, false, false, false, false, false, false, false, false, false, false, false, false, false, false, false, false, false, false, false, false, false, false, false, false, false] rfl rfl (any_of HT_.out (by kernel_rfl)) (fun _ _ _ h => h) (Or.inl ⟨by rfl, ?_⟩) ?_ ?_
                                rotate_left
                                · intro w'
                                  go_simp
                                  with_reducible rfl
                                rotate_left
                                · simp only [Act.put, List.setIfInBounds_toArray, List.set_cons_zero, List.set_cons_succ, i64_w, i32_w]
                                  rfl
                                refine pure_ (i := 6) (N := some 83) (v := ?_) (a' := ?_) #[true, true, false, true, true, false, true, false, false, false, false, false, false, false, false, false, false, false, false, false, false, false, false, false, false, false, false, false, false, false, false, false, false, false] rfl rfl (any_of HT_.out (by kernel_rfl)) (fun _ _ _ h => h) (Or.inl ⟨by rfl, ?_⟩) ?_ ?_
                                rotate_left
                                · intro w'
                                  go_simp
                                  with_reducible rfl
                                rotate_left
                                · simp only [Act.put, List.setIfInBounds_toArray, List.set_cons_zero, List.set_cons_succ, i64_w, i32_w]
                                  rfl
                                refine pure_ (i := 7) (N := some 84) (v := ?_) (a' := ?_) #[true, true, false, true, true, false, true, true, false, false, false, false, false, false, false, false, false, false, false, false, false, false, false, false, false, false, false, false, false, false, false, false, false, false] rfl rfl (any_of HT_.out (by kernel_rfl)) (fun _ _ _ h => h) (Or.inl ⟨by rfl, ?_⟩) ?_ ?_
                                rotate_left
                                · intro w'
                                  go_simp
                                  with_reducible rfl
                                rotate_left
                                · simp only [Act.put, List.setIfInBounds_toArray, List.set_cons_zero, List.set_cons_succ, i64_w, i32_w]
                                  rfl
                                refine pure_ (i := 9) (N := some 86) (v := ?_) (a' := ?_) #[true, true, false, true, true, false, true, true, false, true, false, false, false, false, false, false, false, false, false, false, false, false, false, false, false, false, false, false, false, false, false, false, false, false] rfl rfl (any_of HT_.out (by kernel_rfl)) (fun _ _ _ h => h) (Or.inl ⟨by rfl, ?_⟩) ?_ ?_
                                rotate_left
                                · intro w'
                                  go_simp
                                  with_reducible rfl
                                rotate_left
                                · simp only [Act.put, List.setIfInBounds_toArray, List.set_cons_zero, List.set_cons_succ, i64_w, i32_w]
                                  rfl
                                refine pure_ (i := 10) (N := some 87) (v := ?_) (a' := ?_) #[true, true, false, true, true, false, true, true, false, true, true, false, false, false, false, false, false, false, false, false, false, false, false, false, false, false, false, false, false, false, false, false, false, false] rfl rfl (any_of HT_.out (by kernel_rfl)) (fun _ _ _ h => h) (Or.inl ⟨by rfl, ?_⟩) ?_ ?_
                                rotate_left
                                · intro w'
                                  go_simp
                                  with_reducible rfl
                                rotate_left
                                · simp only [Act.put, List.setIfInBounds_toArray, List.set_cons_zero, List.set_cons_succ, i64_w, i32_w]
                                  rfl
                                refine pure_ (i := 12) (N := some 89) (v := ?_) (a' := ?_) #[true, true, false, true, true, false, true, true, false, true, true, false, true, false, false, false, false, false, false, false, false, false, false, false, false, false, false, false, false, false, false, false, false, false] rfl rfl (any_of HT_.out (by kernel_rfl)) (fun _ _ _ h => h) (Or.inl ⟨by rfl, ?_⟩) ?_ ?_
                                rotate_left
                                · intro w'
                                  go_simp
                                  with_reducible rfl
                                rotate_left
                                · simp only [Act.put, List.setIfInBounds_toArray, List.set_cons_zero, List.set_cons_succ, i64_w, i32_w]
                                  rfl
                                refine pure_ (i := 13) (N := some 90) (v := ?_) (a' := ?_) #[true, true, false, true, true, false, true, true, false, true, true, false, true, true, false, false, false, false, false, false, false, false, false, false, false, false, false, false, false, false, false, false, false, false] rfl rfl (any_of HT_.out (by kernel_rfl)) (fun _ _ _ h => h) (Or.inl ⟨by rfl, ?_⟩) ?_ ?_
                                rotate_left
                                · intro w'
                                  go_simp
                                  with_reducible rfl
                                rotate_left
                                · simp only [Act.put, List.setIfInBounds_toArray, List.set_cons_zero, List.set_cons_succ, i64_w, i32_w]
                                  rfl
                                refine pure_ (i := 15) (N := some 92) (v := ?_) (a' := ?_) #[true, true, false, true, true, false, true, true, false, true, true, false, true, true, false, true, false, false, false, false, false, false, false, false, false, false, false, false, false, false, false, false, false, false] rfl rfl (any_of HT_.out (by kernel_rfl)) (fun _ _ _ h => h) (Or.inl ⟨by rfl, ?_⟩) ?_ ?_
                                rotate_left
                                · intro w'
                                  go_simp
                                  with_reducible rfl
                                rotate_left
                                · simp only [Act.put, List.setIfInBounds_toArray, List.set_cons_zero, List.set_cons_succ, i64_w, i32_w]
                                  rfl
                                refine pure_ (i := 16) (N := some 93) (v := ?_) (a' := ?_) #[true, true, false, true, true, false, true, true, false, true, true, false, true, true, false, true, true, false, false, false, false, false, false, false, false, false, false, false, false, false, false, false, false, false] rfl rfl (any_of HT_.out (by kernel_rfl)) (fun _ _ _ h => h) (Or.inl ⟨by rfl, ?_⟩) ?_ ?_
                                rotate_left
                                · intro w'
                                  go_simp
                                  with_reducible rfl
                                rotate_left
                                · simp only [Act.put, List.setIfInBounds_toArray, List.set_cons_zero, List.set_cons_succ, i64_w, i32_w]
                                  rfl
                                refine pure_ (i := 18) (N := some 95) (v := ?_) (a' := ?_) #[true, true, false, true, true, false, true, true, false, true, true, false, true, true, false, true, true, false, true, false, false, false, false, false, false, false, false, false, false, false, false, false, false, false] rfl rfl (any_of HT_.out (by kernel_rfl)) (fun _ _ _ h => h) (Or.inl ⟨by rfl, ?_⟩) ?_ ?_
                                rotate_left
                                · intro w'
                                  go_simp
                                  with_reducible rfl
                                rotate_left
                                · simp only [Act.put, List.setIfInBounds_toArray, List.set_cons_zero, List.set_cons_succ, i64_w, i32_w]
                                  rfl
                                refine pure_ (i := 19) (N := some 96) (v := ?_) (a' := ?_) #[true, true, false, true, true, false, true, true, false, true, true, false, true, true, false, true, true, false, true, true, false, false, false, false, false, false, false, false, false, false, false, false, false, false] rfl rfl (any_of HT_.out (by kernel_rfl)) (fun _ _ _ h => h) (Or.inl ⟨by rfl, ?_⟩) ?_ ?_
                                rotate_left
                                · intro w'
                                  go_simp
                                  with_reducible rfl
                                rotate_left
                                · simp only [Act.put, List.setIfInBounds_toArray, List.set_cons_zero, List.set_cons_succ, i64_w, i32_w]
                                  rfl
                                refine pure_ (i := 21) (N := some 98) (v := ?_) (a' := ?_) #[true, true, false, true, true, false, true, true, false, true, true, false, true, true, false, true, true, false, true, true, false, true, false, false, false, false, false, false, false, false, false, false, false, false] rfl rfl (any_of HT_.out (by kernel_rfl)) (fun _ _ _ h => h) (Or.inl ⟨by rfl, ?_⟩) ?_ ?_
                                rotate_left
                                · intro w'
                                  go_simp
                                  with_reducible rfl
                                rotate_left
                                · simp only [Act.put, List.setIfInBounds_toArray, List.set_cons_zero, List.set_cons_succ, i64_w, i32_w]
                                  rfl
                                refine pure_ (i := 22) (N := some 99) (v := ?_) (a' := ?_) #[true, true, false, true, true, false, true, true, false, true, true, false, true, true, false, true, true, false, true, true, false, true, true, false, false, false, false, false, false, false, false, false, false, false] rfl rfl (any_of HT_.out (by kernel_rfl)) (fun _ _ _ h => h) (Or.inl ⟨by rfl, ?_⟩) ?_ ?_
                                rotate_left
                                · intro w'
                                  go_simp
                                  with_reducible rfl
                                rotate_left
                                · simp only [Act.put, List.setIfInBounds_toArray, List.set_cons_zero, List.set_cons_succ, i64_w, i32_w]
                                  rfl
                                refine pure_ (i := 25) (N := some 102) (v := ?_) (a' := ?_) #[true, true, false, true, true, false, true, true, false, true, true, false, true, true, false, true, true, false, true, true, false, true, true, false, false, true, false, false, false, false, false, false, false, false] rfl rfl (any_of HT_.out (by kernel_rfl)) (fun _ _ _ h => h) (Or.inl ⟨by rfl, ?_⟩) ?_ ?_
                                rotate_left
                                · intro w'
                                  go_simp
                                  with_reducible rfl
                                rotate_left
                                · simp only [Act.put, List.setIfInBounds_toArray, List.set_cons_zero, List.set_cons_succ, i64_w, i32_w]
                                  rfl
                                refine pure_ (i := 26) (N := some 103) (v := ?_) (a' := ?_) #[true, true, false, true, true, false, true, true, false, true, true, false, true, true, false, true, true, false, true, true, false, true, true, false, false, true, true, false, false, false, false, false, false, false] rfl rfl (any_of HT_.out (by kernel_rfl)) (fun _ _ _ h => h) (Or.inl ⟨by rfl, ?_⟩) ?_ ?_
                                rotate_left
                                · intro w'
                                  go_simp
                                  with_reducible rfl
                                rotate_left
                                · simp only [Act.put, List.setIfInBounds_toArray, List.set_cons_zero, List.set_cons_succ, i64_w, i32_w]
                                  rfl
                                refine pure_ (i := 28) (N := some 105) (v := ?_) (a' := ?_) #[true, true, false, true, true, false, true, true, false, true, true, false, true, true, false, true, true, false, true, true, false, true, true, false, false, true, true, false, true, false, false, false, false, false] rfl rfl (any_of HT_.out (by kernel_rfl)) (fun _ _ _ h => h) (Or.inl ⟨by rfl, ?_⟩) ?_ ?_
                                rotate_left
                                · intro w'
                                  go_simp
                                  with_reducible rfl
                                rotate_left
                                · simp only [Act.put, List.setIfInBounds_toArray, List.set_cons_zero, List.set_cons_succ, i64_w, i32_w]
                                  rfl
                                refine pure_ (i := 29) (N := some 106) (v := ?_) (a' := ?_) #[true, true, false, true, true, false, true, true, false, true, true, false, true, true, false, true, true, false, true, true, false, true, true, false, false, true, true, false, true, true, false, false, false, false] rfl rfl (any_of HT_.out (by kernel_rfl)) (fun _ _ _ h => h) (Or.inl ⟨by rfl, ?_⟩) ?_ ?_
                                rotate_left
                                · intro w'
                                  go_simp
                                  with_reducible rfl
                                rotate_left
                                · simp only [Act.put, List.setIfInBounds_toArray, List.set_cons_zero, List.set_cons_succ, i64_w, i32_w]
                                  rfl
                                refine take_ (i := 2) (N := some 79) (v := ?_) (a' := ?_) #[true, true, true, true, true, false, true, true, false, true, true, false, true, true, false, true, true, false, true, true, false, true, true, false, false, true, true, false, true, true, false, false, false, false] rfl rfl (take_ofW HT_.out HW_.out (by kernel_rfl)) (fun _ _ _ h => h) (Or.inl ⟨by rfl, ?_⟩) hHeld ?_ ?_
                                rotate_left
                                · rintro w' ⟨s0, s1, s2, s3, s4, s5, s6, s7, s8, s9⟩
                                  go_simp
                                  with_reducible rfl
                                rotate_left
                                · simp only [Act.put, List.setIfInBounds_toArray, List.set_cons_zero, List.set_cons_succ, i64_w, i32_w]
                                  rfl
                                refine take_ (i := 5) (N := some 82) (v := ?_) (a' := ?_) #[true, true, true, true, true, true, true, true, false, true, true, false, true, true, false, true, true, false, true, true, false, true, true, false, false, true, true, false, true, true, false, false, false, false] rfl rfl (take_ofW HT_.out HW_.out (by kernel_rfl)) (fun _ _ _ h => h) (Or.inl ⟨by rfl, ?_⟩) hHeld ?_ ?_
                                rotate_left
                                · rintro w' ⟨s0, s1, s2, s3, s4, s5, s6, s7, s8, s9⟩
                                  go_simp
                                  with_reducible rfl
                                rotate_left
                                · simp only [Act.put, List.setIfInBounds_toArray, List.set_cons_zero, List.set_cons_succ, i64_w, i32_w]
                                  rfl
                                refine take_ (i := 8) (N := some 85) (v := ?_) (a' := ?_) #[true, true, true, true, true, true, true, true, true, true, true, false, true, true, false, true, true, false, true, true, false, true, true, false, false, true, true, false, true, true, false, false, false, false] rfl rfl (take_ofW HT_.out HW_.out (by kernel_rfl)) (fun _ _ _ h => h) (Or.inl ⟨by rfl, ?_⟩) hHeld ?_ ?_
                                rotate_left
                                · rintro w' ⟨s0, s1, s2, s3, s4, s5, s6, s7, s8, s9⟩
                                  go_simp
                                  with_reducible rfl
                                rotate_left
                                · simp only [Act.put, List.setIfInBounds_toArray, List.set_cons_zero, List.set_cons_succ, i64_w, i32_w]
                                  rfl
                                refine take_ (i := 11) (N := some 88) (v := ?_) (a' := ?_) #[true, true, true, true, true, true, true, true, true, true, true, true, true, true, false, true, true, false, true, true, false, true, true, false, false, true, true, false, true, true, false, false, false, false] rfl rfl (take_ofW HT_.out HW_.out (by kernel_rfl)) (fun _ _ _ h => h) (Or.inl ⟨by rfl, ?_⟩) hHeld ?_ ?_
                                rotate_left
                                · rintro w' ⟨s0, s1, s2, s3, s4, s5, s6, s7, s8, s9⟩
                                  go_simp
                                  with_reducible rfl
                                rotate_left
                                · simp only [Act.put, List.setIfInBounds_toArray, List.set_cons_zero, List.set_cons_succ, i64_w, i32_w]
                                  rfl
                                refine take_ (i := 14) (N := some 91) (v := ?_) (a' := ?_) #[true, true, true, true, true, true, true, true, true, true, true, true, true, true, true, true, true, false, true, true, false, true, true, false, false, true, true, false, true, true, false, false, false, false] rfl rfl (take_ofW HT_.out HW_.out (by kernel_rfl)) (fun _ _ _ h => h) (Or.inl ⟨by rfl, ?_⟩) hHeld ?_ ?_
                                rotate_left
                                · rintro w' ⟨s0, s1, s2, s3, s4, s5, s6, s7, s8, s9⟩
                                  go_simp
                                  with_reducible rfl
                                rotate_left
                                · simp only [Act.put, List.setIfInBounds_toArray, List.set_cons_zero, List.set_cons_succ, i64_w, i32_w]
                                  rfl
                                refine take_ (i := 17) (N := some 94) (v := ?_) (a' := ?_) #[true, true, true, true, true, true, true, true, true, true, true, true, true, true, true, true, true, true, true, true, false, true, true, false, false, true, true, false, true, true, false, false, false, false] rfl rfl (take_ofW HT_.out HW_.out (by kernel_rfl)) (fun _ _ _ h => h) (Or.inl ⟨by rfl, ?_⟩) hHeld ?_ ?_
                                rotate_left
                                · rintro w' ⟨s0, s1, s2, s3, s4, s5, s6, s7, s8, s9⟩
                                  go_simp
                                  with_reducible rfl
                                rotate_left
                                · simp only [Act.put, List.setIfInBounds_toArray, List.set_cons_zero, List.set_cons_succ, i64_w, i32_w]
                                  rfl
                                refine take_ (i := 20) (N := some 97) (v := ?_) (a' := ?_) #[true, true, true, true, true, true, true, true, true, true, true, true, true, true, true, true, true, true, true, true, true, true, true, false, false, true, true, false, true, true, false, false, false, false] rfl rfl (take_ofW HT_.out HW_.out (by kernel_rfl)) (fun _ _ _ h => h) (Or.inl ⟨by rfl, ?_⟩) hHeld ?_ ?_
                                rotate_left
                                · rintro w' ⟨s0, s1, s2, s3, s4, s5, s6, s7, s8, s9⟩
                                  go_simp
                                  with_reducible rfl
                                rotate_left
                                · simp only [Act.put, List.setIfInBounds_toArray, List.set_cons_zero, List.set_cons_succ, i64_w, i32_w]
                                  rfl
                                refine take_ (i := 23) (N := some 100) (v := ?_) (a' := ?_) #[true, true, true, true, true, true, true, true, true, true, true, true, true, true, true, true, true, true, true, true, true, true, true, true, false, true, true, false, true, true, false, false, false, false] rfl rfl (take_ofW HT_.out HW_.out (by kernel_rfl)) (fun _ _ _ h => h) (Or.inl ⟨by rfl, ?_⟩) hHeld ?_ ?_
                                rotate_left
                                · rintro w' ⟨s0, s1, s2, s3, s4, s5, s6, s7, s8, s9⟩
                                  go_simp
                                  with_reducible rfl
                                rotate_left
                                · simp only [Act.put, List.setIfInBounds_toArray, List.set_cons_zero, List.set_cons_succ, i64_w, i32_w]
                                  rfl
                                refine pure_ (i := 24) (N := some 101) (v := ?_) (a' := ?_) #[true, true, true, true, true, true, true, true, true, true, true, true, true, true, true, true, true, true, true, true, true, true, true, true, true, true, true, false, true, true, false, false, false, false] rfl rfl (any_of HT_.out (by kernel_rfl)) (fun _ _ _ h => h) (Or.inl ⟨by rfl, ?_⟩) ?_ ?_
                                rotate_left
                                · intro w'
                                  go_simp
                                  with_reducible rfl
                                rotate_left
                                · simp only [Act.put, List.setIfInBounds_toArray, List.set_cons_zero, List.set_cons_succ, i64_w, i32_w]
                                  rfl
                                refine take_ (i := 27) (N := some 104) (v := ?_) (a' := ?_) #[true, true, true, true, true, true, true, true, true, true, true, true, true, true, true, true, true, true, true, true, true, true, true, true, true, true, true, true, true, true, false, false, false, false] rfl rfl (take_ofW HT_.out HW_.out (by kernel_rfl)) (fun _ _ _ h => h) (Or.inl ⟨by rfl, ?_⟩) hHeld ?_ ?_
                                rotate_left
                                · rintro w' ⟨s0, s1, s2, s3, s4, s5, s6, s7, s8, s9⟩
                                  go_simp
                                  with_reducible rfl
                                rotate_left
                                · simp only [Act.put, List.setIfInBounds_toArray, List.set_cons_zero, List.set_cons_succ, i64_w, i32_w]
                                  rfl
                                refine take_ (i := 30) (N := some 107) (v := ?_) (a' := ?_) #[true, true, true, true, true, true, true, true, true, true, true, true, true, true, true, true, true, true, true, true, true, true, true, true, true, true, true, true, true, true, true, false, false, false] rfl rfl (take_ofW HT_.out HW_.out (by kernel_rfl)) (fun _ _ _ h => h) (Or.inl ⟨by rfl, ?_⟩) hHeld ?_ ?_
                                rotate_left
                                · rintro w' ⟨s0, s1, s2, s3, s4, s5, s6, s7, s8, s9⟩
                                  go_simp
                                  with_reducible rfl
                                rotate_left
                                · simp only [Act.put, List.setIfInBounds_toArray, List.set_cons_zero, List.set_cons_succ, i64_w, i32_w]
                                  rfl
                                refine pure_ (i := 31) (N := some 108) (v := ?_) (a' := ?_) #[true, true, true, true, true, true, true, true, true, true, true, true, true, true, true, true, true, true, true, true, true, true, true, true, true, true, true, true, true, true, true, true, false, false] rfl rfl (any_of HT_.out (by kernel_rfl)) (fun _ _ _ h => h) (Or.inl ⟨by rfl, ?_⟩) ?_ ?_
                                rotate_left
                                · intro w'
                                  go_simp
                                  with_reducible rfl
                                rotate_left
                                · simp only [Act.put, List.setIfInBounds_toArray, List.set_cons_zero, List.set_cons_succ, i64_w, i32_w]
                                  rfl
                                refine one_ (i := 32) (N := some 10) #[true, true, true, true, true, true, true, true, true, true, true, true, true, true, true, true, true, true, true, true, true, true, true, true, true, true, true, true, true, true, true, true, true, false] rfl rfl (one_of HT_.out (by kernel_rfl)) (by decide) (fun K hK => ?_)
                                refine box_step ?hg (N := 10) ?hd (cs := #[.int .i64 0, .int .i64 0, .int .i64 0, .int .i64 0, .int .i64 0, .int .i64 0, .int .i64 0, .bool false, .int .i64 0, .int .i64 0]) (t := 25) ?hr ?_; (case hd => rfl); (case hg => rfl); (case hr => first | (go_simp; done) | (go_simp; rfl))
                                intro gb164 hg w90 hbox hb
                                have HS0_ := (hb.cell (World.block_lt_of_cell? _ _ (hHeld.1))).trans (hHeld.1)
                                have HS1_ := (hb.cell (World.block_lt_of_cell? _ _ (hHeld.2.1))).trans (hHeld.2.1)
                                have HS2_ := (hb.cell (World.block_lt_of_cell? _ _ (hHeld.2.2.1))).trans (hHeld.2.2.1)
                                have HS3_ := (hb.cell (World.block_lt_of_cell? _ _ (hHeld.2.2.2.1))).trans (hHeld.2.2.2.1)
                                have HS4_ := (hb.cell (World.block_lt_of_cell? _ _ (hHeld.2.2.2.2.1))).trans (hHeld.2.2.2.2.1)
                                have HS5_ := (hb.cell (World.block_lt_of_cell? _ _ (hHeld.2.2.2.2.2.1))).trans (hHeld.2.2.2.2.2.1)
                                have HS6_ := (hb.cell (World.block_lt_of_cell? _ _ (hHeld.2.2.2.2.2.2.1))).trans (hHeld.2.2.2.2.2.2.1)
                                have HS7_ := (hb.cell (World.block_lt_of_cell? _ _ (hHeld.2.2.2.2.2.2.2.1))).trans (hHeld.2.2.2.2.2.2.2.1)
                                have HS8_ := (hb.cell (World.block_lt_of_cell? _ _ (hHeld.2.2.2.2.2.2.2.2.1))).trans (hHeld.2.2.2.2.2.2.2.2.1)
                                have HS9_ := (hb.cell (World.block_lt_of_cell? _ _ (hHeld.2.2.2.2.2.2.2.2.2))).trans (hHeld.2.2.2.2.2.2.2.2.2)
                                have n0_ := Aside0.mk (Kd.R_below (by (with_reducible repeat (first | apply Kd.R_alloc | apply Kd.R_drewN | apply Kd.R_drew)); exact HO_4.out) hb)
                                have n1_ := Aside0.mk (Kd.R_below (by (with_reducible repeat (first | apply Kd.R_alloc | apply Kd.R_drewN | apply Kd.R_drew)); exact HO153.out) hb)
                                have n2_ := Aside0.mk (blk_below (g := gb128) (o := .cells #[.int .i64 x129000_1, .int .i64 x129001_1, .int .i64 x129002_1, .int .i64 x129003_1, .int .i64 x129004_1, .int .i64 x129005_1, .int .i64 x129006_1, .bool x129007_1, .int .i64 x129008_1, .int .i64 x129009_1] 25 (0, 0)) (by (with_reducible repeat (first | refine blk_drewN ?_ _ | refine blk_drew ?_ | refine blk_alloc ?_ _)); exact BK128.out) hb)
                                have n3_ := Aside0.mk (below_step (by repeat (first | (with_reducible first | exact HB.out | apply below_alloc | apply pw_below_drewN | apply below_drew1 | refine below_set ?_ GE128.out) | exact HB.out)) hb)
                                have n4_ := Aside0.mk (hbox)
                                have n5_ := Aside0.mk ((by rw [hg]; exact (below_size (by repeat (first | (with_reducible first | exact HB.out | apply below_alloc | apply pw_below_drewN | apply below_drew1 | refine below_set ?_ GE128.out) | exact HB.out))) : w.heap.size ≤ gb164))
                                have n6_ := Aside0.mk ((by rw [hg]; exact (below_size (by repeat (first | (with_reducible first | exact HB.out | apply below_alloc | apply pw_below_drewN | apply below_drew1 | refine below_set ?_ GE128.out) | exact HB.out))) : w.heap.size ≤ gb164))
                                have n7_ := Aside0.mk ((by rw [hg]; exact Nat.ne_of_lt (blk_lt (g := gb128) (o := .cells #[.int .i64 x129000_1, .int .i64 x129001_1, .int .i64 x129002_1, .int .i64 x129003_1, .int .i64 x129004_1, .int .i64 x129005_1, .int .i64 x129006_1, .bool x129007_1, .int .i64 x129008_1, .int .i64 x129009_1] 25 (0, 0)) (by (with_reducible repeat (first | refine blk_drewN ?_ _ | refine blk_drew ?_ | refine blk_alloc ?_ _)); exact BK128.out)) : gb128 ≠ gb164))
                                have n8_ := Aside0.mk ((by rw [hg]; exact Nat.ne_of_gt (blk_lt (g := gb128) (o := .cells #[.int .i64 x129000_1, .int .i64 x129001_1, .int .i64 x129002_1, .int .i64 x129003_1, .int .i64 x129004_1, .int .i64 x129005_1, .int .i64 x129006_1, .bool x129007_1, .int .i64 x129008_1, .int .i64 x129009_1] 25 (0, 0)) (by (with_reducible repeat (first | refine blk_drewN ?_ _ | refine blk_drew ?_ | refine blk_alloc ?_ _)); exact BK128.out)) : gb164 ≠ gb128))
                                clear HO_4
                                clear HO153
                                clear BK128
                                clear HB
                                have HO_4 := n0_
                                have HO153 := n1_
                                have BK128 := n2_
                                have HB := n3_
                                have BK164 := n4_
                                have GW164 := n5_
                                have GE164 := n6_
                                have NB128_164 := n7_
                                have NB164_128 := n8_
                                clear n0_ n1_ n2_ n3_ n4_ n5_ n6_ n7_ n8_
                                clear hb hbox hg
                                refine hK.out _ _ ⟨HS0_, HS1_, HS2_, HS3_, HS4_, HS5_, HS6_, HS7_, HS8_, HS9_⟩ (fun hHeld => ?_)
                                clear hK K
                                refine norm_ (a' := ?_) ?_ ?_
                                rotate_left
                                · show Act.put _ (some 10) _ = _
                                  simp only [Act.put, List.setIfInBounds_toArray, List.set_cons_zero, List.set_cons_succ, i64_w, i32_w]
                                  rfl
                                refine one_ (i := 33) (N := none) #[true, true, true, true, true, true, true, true, true, true, true, true, true, true, true, true, true, true, true, true, true, true, true, true, true, true, true, true, true, true, true, true, true, true] rfl rfl (one_of HT_.out (by kernel_rfl)) (by decide) (fun K hK => ?_)
                                have hs_0 : w90.cell? ⟨gb164, 0, none⟩ = some (.int .i64 0) := (blk_cell BK164.out 0).trans rfl
                                have hf_0 := blk_frozen BK164.out 0
                                have hs_1 : w90.cell? ⟨gb164, 1, none⟩ = some (.int .i64 0) := (blk_cell BK164.out 1).trans rfl
                                have hf_1 := blk_frozen BK164.out 1
                                have hs_2 : w90.cell? ⟨gb164, 2, none⟩ = some (.int .i64 0) := (blk_cell BK164.out 2).trans rfl
                                have hf_2 := blk_frozen BK164.out 2
                                have hs_3 : w90.cell? ⟨gb164, 3, none⟩ = some (.int .i64 0) := (blk_cell BK164.out 3).trans rfl
                                have hf_3 := blk_frozen BK164.out 3
                                have hs_4 : w90.cell? ⟨gb164, 4, none⟩ = some (.int .i64 0) := (blk_cell BK164.out 4).trans rfl
                                have hf_4 := blk_frozen BK164.out 4
                                have hs_5 : w90.cell? ⟨gb164, 5, none⟩ = some (.int .i64 0) := (blk_cell BK164.out 5).trans rfl
                                have hf_5 := blk_frozen BK164.out 5
                                have hs_6 : w90.cell? ⟨gb164, 6, none⟩ = some (.int .i64 0) := (blk_cell BK164.out 6).trans rfl
                                have hf_6 := blk_frozen BK164.out 6
                                have hs_7 : w90.cell? ⟨gb164, 7, none⟩ = some (.bool false) := (blk_cell BK164.out 7).trans rfl
                                have hf_7 := blk_frozen BK164.out 7
                                have hs_8 : w90.cell? ⟨gb164, 8, none⟩ = some (.int .i64 0) := (blk_cell BK164.out 8).trans rfl
                                have hf_8 := blk_frozen BK164.out 8
                                have hs_9 : w90.cell? ⟨gb164, 9, none⟩ = some (.int .i64 0) := (blk_cell BK164.out 9).trans rfl
                                have hf_9 := blk_frozen BK164.out 9
                                refine skip_ (w1 := ?_) (by rfl) rfl ?_ ?_
                                rotate_left
                                · go_simp
                                  rfl
                                clear hs_0 hf_0 hs_1 hf_1 hs_2 hf_2 hs_3 hf_3 hs_4 hf_4 hs_5 hf_5 hs_6 hf_6 hs_7 hf_7 hs_8 hf_8 hs_9 hf_9
                                have hne_ : ad154.block ≠ gb164 := Kd.own_blk (Kd.R_ne HO_4.out BK164.out (by decide))
                                have m0_ : Aside0 (((((((((((w90.setCell ⟨gb164, 0, none⟩ (.int .i64 (rd x4_1 0))).setCell ⟨gb164, 1, none⟩ (.int .i64 (rd x4_1 1))).setCell ⟨gb164, 2, none⟩ (.int .i64 (rd x4_1 2))).setCell ⟨gb164, 3, none⟩ (.int .i64 (rd x4_1 3))).setCell ⟨gb164, 4, none⟩ (.int .i64 (rd x4_1 4))).setCell ⟨gb164, 5, none⟩ (.int .i64 (rd x4_1 5))).setCell ⟨gb164, 6, none⟩ (.int .i64 (rd x4_1 6))).setCell ⟨gb164, 7, none⟩ (.bool ((rd x4_1 7) == 1))).setCell ⟨gb164, 8, none⟩ (.int .i64 (rd x4_1 8))).setCell ⟨gb164, 9, none⟩ (.int .i64 (rd x4_1 9))).heap[gb164]? = some (.cells #[.int .i64 (rd x4_1 0), .int .i64 (rd x4_1 1), .int .i64 (rd x4_1 2), .int .i64 (rd x4_1 3), .int .i64 (rd x4_1 4), .int .i64 (rd x4_1 5), .int .i64 (rd x4_1 6), .bool ((rd x4_1 7) == 1), .int .i64 (rd x4_1 8), .int .i64 (rd x4_1 9)] 25 (0, 0))) := ⟨put10_self BK164.out (.int .i64 (rd x4_1 0)) (.int .i64 (rd x4_1 1)) (.int .i64 (rd x4_1 2)) (.int .i64 (rd x4_1 3)) (.int .i64 (rd x4_1 4)) (.int .i64 (rd x4_1 5)) (.int .i64 (rd x4_1 6)) (.bool ((rd x4_1 7) == 1)) (.int .i64 (rd x4_1 8)) (.int .i64 (rd x4_1 9))⟩
                                have m1_ : Aside0 (((((((((((w90.setCell ⟨gb164, 0, none⟩ (.int .i64 (rd x4_1 0))).setCell ⟨gb164, 1, none⟩ (.int .i64 (rd x4_1 1))).setCell ⟨gb164, 2, none⟩ (.int .i64 (rd x4_1 2))).setCell ⟨gb164, 3, none⟩ (.int .i64 (rd x4_1 3))).setCell ⟨gb164, 4, none⟩ (.int .i64 (rd x4_1 4))).setCell ⟨gb164, 5, none⟩ (.int .i64 (rd x4_1 5))).setCell ⟨gb164, 6, none⟩ (.int .i64 (rd x4_1 6))).setCell ⟨gb164, 7, none⟩ (.bool ((rd x4_1 7) == 1))).setCell ⟨gb164, 8, none⟩ (.int .i64 (rd x4_1 8))).setCell ⟨gb164, 9, none⟩ (.int .i64 (rd x4_1 9))).heap[gb128]? = some (.cells #[.int .i64 x129000_1, .int .i64 x129001_1, .int .i64 x129002_1, .int .i64 x129003_1, .int .i64 x129004_1, .int .i64 x129005_1, .int .i64 x129006_1, .bool x129007_1, .int .i64 x129008_1, .int .i64 x129009_1] 25 (0, 0))) := ⟨put10_far BK128.out NB128_164.out (.int .i64 (rd x4_1 0)) (.int .i64 (rd x4_1 1)) (.int .i64 (rd x4_1 2)) (.int .i64 (rd x4_1 3)) (.int .i64 (rd x4_1 4)) (.int .i64 (rd x4_1 5)) (.int .i64 (rd x4_1 6)) (.bool ((rd x4_1 7) == 1)) (.int .i64 (rd x4_1 8)) (.int .i64 (rd x4_1 9))⟩
                                have m2_ : Aside0 (Below w.heap.size w ((((((((((w90.setCell ⟨gb164, 0, none⟩ (.int .i64 (rd x4_1 0))).setCell ⟨gb164, 1, none⟩ (.int .i64 (rd x4_1 1))).setCell ⟨gb164, 2, none⟩ (.int .i64 (rd x4_1 2))).setCell ⟨gb164, 3, none⟩ (.int .i64 (rd x4_1 3))).setCell ⟨gb164, 4, none⟩ (.int .i64 (rd x4_1 4))).setCell ⟨gb164, 5, none⟩ (.int .i64 (rd x4_1 5))).setCell ⟨gb164, 6, none⟩ (.int .i64 (rd x4_1 6))).setCell ⟨gb164, 7, none⟩ (.bool ((rd x4_1 7) == 1))).setCell ⟨gb164, 8, none⟩ (.int .i64 (rd x4_1 8))).setCell ⟨gb164, 9, none⟩ (.int .i64 (rd x4_1 9)))) := ⟨put10_below HB.out GE164.out (.int .i64 (rd x4_1 0)) (.int .i64 (rd x4_1 1)) (.int .i64 (rd x4_1 2)) (.int .i64 (rd x4_1 3)) (.int .i64 (rd x4_1 4)) (.int .i64 (rd x4_1 5)) (.int .i64 (rd x4_1 6)) (.bool ((rd x4_1 7) == 1)) (.int .i64 (rd x4_1 8)) (.int .i64 (rd x4_1 9))⟩
                                have m3_ : ((((((((((w90.setCell ⟨gb164, 0, none⟩ (.int .i64 (rd x4_1 0))).setCell ⟨gb164, 1, none⟩ (.int .i64 (rd x4_1 1))).setCell ⟨gb164, 2, none⟩ (.int .i64 (rd x4_1 2))).setCell ⟨gb164, 3, none⟩ (.int .i64 (rd x4_1 3))).setCell ⟨gb164, 4, none⟩ (.int .i64 (rd x4_1 4))).setCell ⟨gb164, 5, none⟩ (.int .i64 (rd x4_1 5))).setCell ⟨gb164, 6, none⟩ (.int .i64 (rd x4_1 6))).setCell ⟨gb164, 7, none⟩ (.bool ((rd x4_1 7) == 1))).setCell ⟨gb164, 8, none⟩ (.int .i64 (rd x4_1 8))).setCell ⟨gb164, 9, none⟩ (.int .i64 (rd x4_1 9))).cell? ad154 = some (.int .i64 (rd x4_1 0)) ∧ ((((((((((w90.setCell ⟨gb164, 0, none⟩ (.int .i64 (rd x4_1 0))).setCell ⟨gb164, 1, none⟩ (.int .i64 (rd x4_1 1))).setCell ⟨gb164, 2, none⟩ (.int .i64 (rd x4_1 2))).setCell ⟨gb164, 3, none⟩ (.int .i64 (rd x4_1 3))).setCell ⟨gb164, 4, none⟩ (.int .i64 (rd x4_1 4))).setCell ⟨gb164, 5, none⟩ (.int .i64 (rd x4_1 5))).setCell ⟨gb164, 6, none⟩ (.int .i64 (rd x4_1 6))).setCell ⟨gb164, 7, none⟩ (.bool ((rd x4_1 7) == 1))).setCell ⟨gb164, 8, none⟩ (.int .i64 (rd x4_1 8))).setCell ⟨gb164, 9, none⟩ (.int .i64 (rd x4_1 9))).cell? ⟨ad154.block, ad154.off + 1, none⟩ = some (.int .i64 (rd x4_1 1)) ∧ ((((((((((w90.setCell ⟨gb164, 0, none⟩ (.int .i64 (rd x4_1 0))).setCell ⟨gb164, 1, none⟩ (.int .i64 (rd x4_1 1))).setCell ⟨gb164, 2, none⟩ (.int .i64 (rd x4_1 2))).setCell ⟨gb164, 3, none⟩ (.int .i64 (rd x4_1 3))).setCell ⟨gb164, 4, none⟩ (.int .i64 (rd x4_1 4))).setCell ⟨gb164, 5, none⟩ (.int .i64 (rd x4_1 5))).setCell ⟨gb164, 6, none⟩ (.int .i64 (rd x4_1 6))).setCell ⟨gb164, 7, none⟩ (.bool ((rd x4_1 7) == 1))).setCell ⟨gb164, 8, none⟩ (.int .i64 (rd x4_1 8))).setCell ⟨gb164, 9, none⟩ (.int .i64 (rd x4_1 9))).cell? ⟨ad154.block, ad154.off + 2, none⟩ = some (.int .i64 (rd x4_1 2)) ∧ ((((((((((w90.setCell ⟨gb164, 0, none⟩ (.int .i64 (rd x4_1 0))).setCell ⟨gb164, 1, none⟩ (.int .i64 (rd x4_1 1))).setCell ⟨gb164, 2, none⟩ (.int .i64 (rd x4_1 2))).setCell ⟨gb164, 3, none⟩ (.int .i64 (rd x4_1 3))).setCell ⟨gb164, 4, none⟩ (.int .i64 (rd x4_1 4))).setCell ⟨gb164, 5, none⟩ (.int .i64 (rd x4_1 5))).setCell ⟨gb164, 6, none⟩ (.int .i64 (rd x4_1 6))).setCell ⟨gb164, 7, none⟩ (.bool ((rd x4_1 7) == 1))).setCell ⟨gb164, 8, none⟩ (.int .i64 (rd x4_1 8))).setCell ⟨gb164, 9, none⟩ (.int .i64 (rd x4_1 9))).cell? ⟨ad154.block, ad154.off + 3, none⟩ = some (.int .i64 (rd x4_1 3)) ∧ ((((((((((w90.setCell ⟨gb164, 0, none⟩ (.int .i64 (rd x4_1 0))).setCell ⟨gb164, 1, none⟩ (.int .i64 (rd x4_1 1))).setCell ⟨gb164, 2, none⟩ (.int .i64 (rd x4_1 2))).setCell ⟨gb164, 3, none⟩ (.int .i64 (rd x4_1 3))).setCell ⟨gb164, 4, none⟩ (.int .i64 (rd x4_1 4))).setCell ⟨gb164, 5, none⟩ (.int .i64 (rd x4_1 5))).setCell ⟨gb164, 6, none⟩ (.int .i64 (rd x4_1 6))).setCell ⟨gb164, 7, none⟩ (.bool ((rd x4_1 7) == 1))).setCell ⟨gb164, 8, none⟩ (.int .i64 (rd x4_1 8))).setCell ⟨gb164, 9, none⟩ (.int .i64 (rd x4_1 9))).cell? ⟨ad154.block, ad154.off + 4, none⟩ = some (.int .i64 (rd x4_1 4)) ∧ ((((((((((w90.setCell ⟨gb164, 0, none⟩ (.int .i64 (rd x4_1 0))).setCell ⟨gb164, 1, none⟩ (.int .i64 (rd x4_1 1))).setCell ⟨gb164, 2, none⟩ (.int .i64 (rd x4_1 2))).setCell ⟨gb164, 3, none⟩ (.int .i64 (rd x4_1 3))).setCell ⟨gb164, 4, none⟩ (.int .i64 (rd x4_1 4))).setCell ⟨gb164, 5, none⟩ (.int .i64 (rd x4_1 5))).setCell ⟨gb164, 6, none⟩ (.int .i64 (rd x4_1 6))).setCell ⟨gb164, 7, none⟩ (.bool ((rd x4_1 7) == 1))).setCell ⟨gb164, 8, none⟩ (.int .i64 (rd x4_1 8))).setCell ⟨gb164, 9, none⟩ (.int .i64 (rd x4_1 9))).cell? ⟨ad154.block, ad154.off + 5, none⟩ = some (.int .i64 (rd x4_1 5)) ∧ ((((((((((w90.setCell ⟨gb164, 0, none⟩ (.int .i64 (rd x4_1 0))).setCell ⟨gb164, 1, none⟩ (.int .i64 (rd x4_1 1))).setCell ⟨gb164, 2, none⟩ (.int .i64 (rd x4_1 2))).setCell ⟨gb164, 3, none⟩ (.int .i64 (rd x4_1 3))).setCell ⟨gb164, 4, none⟩ (.int .i64 (rd x4_1 4))).setCell ⟨gb164, 5, none⟩ (.int .i64 (rd x4_1 5))).setCell ⟨gb164, 6, none⟩ (.int .i64 (rd x4_1 6))).setCell ⟨gb164, 7, none⟩ (.bool ((rd x4_1 7) == 1))).setCell ⟨gb164, 8, none⟩ (.int .i64 (rd x4_1 8))).setCell ⟨gb164, 9, none⟩ (.int .i64 (rd x4_1 9))).cell? ⟨ad154.block, ad154.off + 6, none⟩ = some (.int .i64 (rd x4_1 6)) ∧ ((((((((((w90.setCell ⟨gb164, 0, none⟩ (.int .i64 (rd x4_1 0))).setCell ⟨gb164, 1, none⟩ (.int .i64 (rd x4_1 1))).setCell ⟨gb164, 2, none⟩ (.int .i64 (rd x4_1 2))).setCell ⟨gb164, 3, none⟩ (.int .i64 (rd x4_1 3))).setCell ⟨gb164, 4, none⟩ (.int .i64 (rd x4_1 4))).setCell ⟨gb164, 5, none⟩ (.int .i64 (rd x4_1 5))).setCell ⟨gb164, 6, none⟩ (.int .i64 (rd x4_1 6))).setCell ⟨gb164, 7, none⟩ (.bool ((rd x4_1 7) == 1))).setCell ⟨gb164, 8, none⟩ (.int .i64 (rd x4_1 8))).setCell ⟨gb164, 9, none⟩ (.int .i64 (rd x4_1 9))).cell? ⟨ad154.block, ad154.off + 7, none⟩ = some (.int .i64 (rd x4_1 7)) ∧ ((((((((((w90.setCell ⟨gb164, 0, none⟩ (.int .i64 (rd x4_1 0))).setCell ⟨gb164, 1, none⟩ (.int .i64 (rd x4_1 1))).setCell ⟨gb164, 2, none⟩ (.int .i64 (rd x4_1 2))).setCell ⟨gb164, 3, none⟩ (.int .i64 (rd x4_1 3))).setCell ⟨gb164, 4, none⟩ (.int .i64 (rd x4_1 4))).setCell ⟨gb164, 5, none⟩ (.int .i64 (rd x4_1 5))).setCell ⟨gb164, 6, none⟩ (.int .i64 (rd x4_1 6))).setCell ⟨gb164, 7, none⟩ (.bool ((rd x4_1 7) == 1))).setCell ⟨gb164, 8, none⟩ (.int .i64 (rd x4_1 8))).setCell ⟨gb164, 9, none⟩ (.int .i64 (rd x4_1 9))).cell? ⟨ad154.block, ad154.off + 8, none⟩ = some (.int .i64 (rd x4_1 8)) ∧ ((((((((((w90.setCell ⟨gb164, 0, none⟩ (.int .i64 (rd x4_1 0))).setCell ⟨gb164, 1, none⟩ (.int .i64 (rd x4_1 1))).setCell ⟨gb164, 2, none⟩ (.int .i64 (rd x4_1 2))).setCell ⟨gb164, 3, none⟩ (.int .i64 (rd x4_1 3))).setCell ⟨gb164, 4, none⟩ (.int .i64 (rd x4_1 4))).setCell ⟨gb164, 5, none⟩ (.int .i64 (rd x4_1 5))).setCell ⟨gb164, 6, none⟩ (.int .i64 (rd x4_1 6))).setCell ⟨gb164, 7, none⟩ (.bool ((rd x4_1 7) == 1))).setCell ⟨gb164, 8, none⟩ (.int .i64 (rd x4_1 8))).setCell ⟨gb164, 9, none⟩ (.int .i64 (rd x4_1 9))).cell? ⟨ad154.block, ad154.off + 9, none⟩ = some (.int .i64 (rd x4_1 9)) := ⟨(put10_cell (w := w90) (a := ad154) hne_ (.int .i64 (rd x4_1 0)) (.int .i64 (rd x4_1 1)) (.int .i64 (rd x4_1 2)) (.int .i64 (rd x4_1 3)) (.int .i64 (rd x4_1 4)) (.int .i64 (rd x4_1 5)) (.int .i64 (rd x4_1 6)) (.bool ((rd x4_1 7) == 1)) (.int .i64 (rd x4_1 8)) (.int .i64 (rd x4_1 9))).trans hHeld.1, (put10_cell (w := w90) (a := ⟨ad154.block, ad154.off + 1, none⟩) hne_ (.int .i64 (rd x4_1 0)) (.int .i64 (rd x4_1 1)) (.int .i64 (rd x4_1 2)) (.int .i64 (rd x4_1 3)) (.int .i64 (rd x4_1 4)) (.int .i64 (rd x4_1 5)) (.int .i64 (rd x4_1 6)) (.bool ((rd x4_1 7) == 1)) (.int .i64 (rd x4_1 8)) (.int .i64 (rd x4_1 9))).trans hHeld.2.1, (put10_cell (w := w90) (a := ⟨ad154.block, ad154.off + 2, none⟩) hne_ (.int .i64 (rd x4_1 0)) (.int .i64 (rd x4_1 1)) (.int .i64 (rd x4_1 2)) (.int .i64 (rd x4_1 3)) (.int .i64 (rd x4_1 4)) (.int .i64 (rd x4_1 5)) (.int .i64 (rd x4_1 6)) (.bool ((rd x4_1 7) == 1)) (.int .i64 (rd x4_1 8)) (.int .i64 (rd x4_1 9))).trans hHeld.2.2.1, (put10_cell (w := w90) (a := ⟨ad154.block, ad154.off + 3, none⟩) hne_ (.int .i64 (rd x4_1 0)) (.int .i64 (rd x4_1 1)) (.int .i64 (rd x4_1 2)) (.int .i64 (rd x4_1 3)) (.int .i64 (rd x4_1 4)) (.int .i64 (rd x4_1 5)) (.int .i64 (rd x4_1 6)) (.bool ((rd x4_1 7) == 1)) (.int .i64 (rd x4_1 8)) (.int .i64 (rd x4_1 9))).trans hHeld.2.2.2.1, (put10_cell (w := w90) (a := ⟨ad154.block, ad154.off + 4, none⟩) hne_ (.int .i64 (rd x4_1 0)) (.int .i64 (rd x4_1 1)) (.int .i64 (rd x4_1 2)) (.int .i64 (rd x4_1 3)) (.int .i64 (rd x4_1 4)) (.int .i64 (rd x4_1 5)) (.int .i64 (rd x4_1 6)) (.bool ((rd x4_1 7) == 1)) (.int .i64 (rd x4_1 8)) (.int .i64 (rd x4_1 9))).trans hHeld.2.2.2.2.1, (put10_cell (w := w90) (a := ⟨ad154.block, ad154.off + 5, none⟩) hne_ (.int .i64 (rd x4_1 0)) (.int .i64 (rd x4_1 1)) (.int .i64 (rd x4_1 2)) (.int .i64 (rd x4_1 3)) (.int .i64 (rd x4_1 4)) (.int .i64 (rd x4_1 5)) (.int .i64 (rd x4_1 6)) (.bool ((rd x4_1 7) == 1)) (.int .i64 (rd x4_1 8)) (.int .i64 (rd x4_1 9))).trans hHeld.2.2.2.2.2.1, (put10_cell (w := w90) (a := ⟨ad154.block, ad154.off + 6, none⟩) hne_ (.int .i64 (rd x4_1 0)) (.int .i64 (rd x4_1 1)) (.int .i64 (rd x4_1 2)) (.int .i64 (rd x4_1 3)) (.int .i64 (rd x4_1 4)) (.int .i64 (rd x4_1 5)) (.int .i64 (rd x4_1 6)) (.bool ((rd x4_1 7) == 1)) (.int .i64 (rd x4_1 8)) (.int .i64 (rd x4_1 9))).trans hHeld.2.2.2.2.2.2.1, (put10_cell (w := w90) (a := ⟨ad154.block, ad154.off + 7, none⟩) hne_ (.int .i64 (rd x4_1 0)) (.int .i64 (rd x4_1 1)) (.int .i64 (rd x4_1 2)) (.int .i64 (rd x4_1 3)) (.int .i64 (rd x4_1 4)) (.int .i64 (rd x4_1 5)) (.int .i64 (rd x4_1 6)) (.bool ((rd x4_1 7) == 1)) (.int .i64 (rd x4_1 8)) (.int .i64 (rd x4_1 9))).trans hHeld.2.2.2.2.2.2.2.1, (put10_cell (w := w90) (a := ⟨ad154.block, ad154.off + 8, none⟩) hne_ (.int .i64 (rd x4_1 0)) (.int .i64 (rd x4_1 1)) (.int .i64 (rd x4_1 2)) (.int .i64 (rd x4_1 3)) (.int .i64 (rd x4_1 4)) (.int .i64 (rd x4_1 5)) (.int .i64 (rd x4_1 6)) (.bool ((rd x4_1 7) == 1)) (.int .i64 (rd x4_1 8)) (.int .i64 (rd x4_1 9))).trans hHeld.2.2.2.2.2.2.2.2.1, (put10_cell (w := w90) (a := ⟨ad154.block, ad154.off + 9, none⟩) hne_ (.int .i64 (rd x4_1 0)) (.int .i64 (rd x4_1 1)) (.int .i64 (rd x4_1 2)) (.int .i64 (rd x4_1 3)) (.int .i64 (rd x4_1 4)) (.int .i64 (rd x4_1 5)) (.int .i64 (rd x4_1 6)) (.bool ((rd x4_1 7) == 1)) (.int .i64 (rd x4_1 8)) (.int .i64 (rd x4_1 9))).trans hHeld.2.2.2.2.2.2.2.2.2⟩
                                clear BK164 BK128 HB HO_4 HO153 hHeld
                                generalize ((((((((((w90.setCell ⟨gb164, 0, none⟩ (.int .i64 (rd x4_1 0))).setCell ⟨gb164, 1, none⟩ (.int .i64 (rd x4_1 1))).setCell ⟨gb164, 2, none⟩ (.int .i64 (rd x4_1 2))).setCell ⟨gb164, 3, none⟩ (.int .i64 (rd x4_1 3))).setCell ⟨gb164, 4, none⟩ (.int .i64 (rd x4_1 4))).setCell ⟨gb164, 5, none⟩ (.int .i64 (rd x4_1 5))).setCell ⟨gb164, 6, none⟩ (.int .i64 (rd x4_1 6))).setCell ⟨gb164, 7, none⟩ (.bool ((rd x4_1 7) == 1))).setCell ⟨gb164, 8, none⟩ (.int .i64 (rd x4_1 8))).setCell ⟨gb164, 9, none⟩ (.int .i64 (rd x4_1 9))) = w90p at m0_ m1_ m2_ m3_ ⊢
                                have BK164 := m0_
                                have BK128 := m1_
                                have HB := m2_
                                have HO_4 := Aside0.mk trivial
                                have HO153 := Aside0.mk trivial
                                refine hK.out _ _ m3_ (fun hHeld => ?_)
                                clear hK K m0_ m1_ m2_ m3_
                                refine done_ (done_of HT_.out (by kernel_rfl)) ?_
                                have hnb101 := NB164_128.out
                                have hnc101 := NB128_164.out
                                have hcz_0 : w90p.cell? ⟨gb164, 0, none⟩ = some (.int .i64 (rd x4_1 0)) := (blk_cell BK164.out 0).trans rfl
                                have hcz_1 : w90p.cell? ⟨gb164, 1, none⟩ = some (.int .i64 (rd x4_1 1)) := (blk_cell BK164.out 1).trans rfl
                                have hcz_2 : w90p.cell? ⟨gb164, 2, none⟩ = some (.int .i64 (rd x4_1 2)) := (blk_cell BK164.out 2).trans rfl
                                have hcz_3 : w90p.cell? ⟨gb164, 3, none⟩ = some (.int .i64 (rd x4_1 3)) := (blk_cell BK164.out 3).trans rfl
                                have hcz_4 : w90p.cell? ⟨gb164, 4, none⟩ = some (.int .i64 (rd x4_1 4)) := (blk_cell BK164.out 4).trans rfl
                                have hcz_5 : w90p.cell? ⟨gb164, 5, none⟩ = some (.int .i64 (rd x4_1 5)) := (blk_cell BK164.out 5).trans rfl
                                have hcz_6 : w90p.cell? ⟨gb164, 6, none⟩ = some (.int .i64 (rd x4_1 6)) := (blk_cell BK164.out 6).trans rfl
                                have hcz_7 : w90p.cell? ⟨gb164, 7, none⟩ = some (.bool ((rd x4_1 7) == 1)) := (blk_cell BK164.out 7).trans rfl
                                have hcz_8 : w90p.cell? ⟨gb164, 8, none⟩ = some (.int .i64 (rd x4_1 8)) := (blk_cell BK164.out 8).trans rfl
                                have hcz_9 : w90p.cell? ⟨gb164, 9, none⟩ = some (.int .i64 (rd x4_1 9)) := (blk_cell BK164.out 9).trans rfl
                                have hfz102_0 := blk_frozen BK164.out 0
                                have hfz102_1 := blk_frozen BK164.out 1
                                have hfz102_2 := blk_frozen BK164.out 2
                                have hfz102_3 := blk_frozen BK164.out 3
                                have hfz102_4 := blk_frozen BK164.out 4
                                have hfz102_5 := blk_frozen BK164.out 5
                                have hfz102_6 := blk_frozen BK164.out 6
                                have hfz102_7 := blk_frozen BK164.out 7
                                have hfz102_8 := blk_frozen BK164.out 8
                                have hfz102_9 := blk_frozen BK164.out 9
                                try go_wp2_with (first | ((with_reducible refine gate_callee (f := 14) rfl ?_); refine goesL_ (some 110) rfl rfl Tryd.func14 (by kernel_rfl) rfl #[.agg #[.int .i64 (rd x4_1 0), .int .i64 (rd x4_1 1), .int .i64 (rd x4_1 2), .int .i64 (rd x4_1 3), .int .i64 (rd x4_1 4), .int .i64 (rd x4_1 5), .int .i64 (rd x4_1 6), .bool ((rd x4_1 7) == 1), .int .i64 (rd x4_1 8), .int .i64 (rd x4_1 9)]] rfl (by (try simp only [List.map_toArray, List.map_cons, List.map_nil]); first | done | rfl | (simp only [List.length_drop, List.length_take]; rfl)) ?_; (with_reducible refine (spec_JobOk.calls k1 (rd x4_1 0) (rd x4_1 1) (rd x4_1 2) (rd x4_1 3) (rd x4_1 4) (rd x4_1 5) (rd x4_1 6) ((rd x4_1 7) == 1) (rd x4_1 8) (rd x4_1 9) false _ A64.out).mono ?_); rintro e w103 ⟨rfl, hb⟩; refine ⟨_, rfl, ?_⟩; have n0_ := Aside0.mk trivial; have n1_ := Aside0.mk trivial; have n2_ := Aside0.mk (blk_below (g := gb128) (o := .cells #[.int .i64 x129000_1, .int .i64 x129001_1, .int .i64 x129002_1, .int .i64 x129003_1, .int .i64 x129004_1, .int .i64 x129005_1, .int .i64 x129006_1, .bool x129007_1, .int .i64 x129008_1, .int .i64 x129009_1] 25 (0, 0)) BK128.out hb); have n3_ := Aside0.mk (blk_below (g := gb164) (o := .cells #[.int .i64 (rd x4_1 0), .int .i64 (rd x4_1 1), .int .i64 (rd x4_1 2), .int .i64 (rd x4_1 3), .int .i64 (rd x4_1 4), .int .i64 (rd x4_1 5), .int .i64 (rd x4_1 6), .bool ((rd x4_1 7) == 1), .int .i64 (rd x4_1 8), .int .i64 (rd x4_1 9)] 25 (0, 0)) BK164.out hb); have n4_ := Aside0.mk (below_step (by repeat (first | (with_reducible first | exact HB.out | apply below_alloc | apply pw_below_drewN | apply below_drew1 | refine below_set ?_ GE128.out | refine below_set ?_ GE164.out) | exact HB.out)) hb); clear HO_4; clear HO153; clear BK128; clear BK164; clear HB; have HO_4 := n0_; have HO153 := n1_; have BK128 := n2_; have BK164 := n3_; have HB := n4_; clear n0_ n1_ n2_ n3_ n4_; (try clear hb); (try clear hb2); (try clear hk); (try clear hi); have hcz104_0 : w103.cell? ⟨gb128, 0, none⟩ = some (.int .i64 x129000_1) := (blk_cell BK128.out 0).trans rfl; have hcz104_1 : w103.cell? ⟨gb128, 1, none⟩ = some (.int .i64 x129001_1) := (blk_cell BK128.out 1).trans rfl; have hcz104_2 : w103.cell? ⟨gb128, 2, none⟩ = some (.int .i64 x129002_1) := (blk_cell BK128.out 2).trans rfl; have hcz104_3 : w103.cell? ⟨gb128, 3, none⟩ = some (.int .i64 x129003_1) := (blk_cell BK128.out 3).trans rfl; have hcz104_4 : w103.cell? ⟨gb128, 4, none⟩ = some (.int .i64 x129004_1) := (blk_cell BK128.out 4).trans rfl; have hcz104_5 : w103.cell? ⟨gb128, 5, none⟩ = some (.int .i64 x129005_1) := (blk_cell BK128.out 5).trans rfl; have hcz104_6 : w103.cell? ⟨gb128, 6, none⟩ = some (.int .i64 x129006_1) := (blk_cell BK128.out 6).trans rfl; have hcz104_7 : w103.cell? ⟨gb128, 7, none⟩ = some (.bool x129007_1) := (blk_cell BK128.out 7).trans rfl; have hcz104_8 : w103.cell? ⟨gb128, 8, none⟩ = some (.int .i64 x129008_1) := (blk_cell BK128.out 8).trans rfl; have hcz104_9 : w103.cell? ⟨gb128, 9, none⟩ = some (.int .i64 x129009_1) := (blk_cell BK128.out 9).trans rfl; have hfz104_0 := blk_frozen BK128.out 0; have hfz104_1 := blk_frozen BK128.out 1; have hfz104_2 := blk_frozen BK128.out 2; have hfz104_3 := blk_frozen BK128.out 3; have hfz104_4 := blk_frozen BK128.out 4; have hfz104_5 := blk_frozen BK128.out 5; have hfz104_6 := blk_frozen BK128.out 6; have hfz104_7 := blk_frozen BK128.out 7; have hfz104_8 := blk_frozen BK128.out 8; have hfz104_9 := blk_frozen BK128.out 9))
                                refine bodyPost_ret (results_ct rfl _ _ gb128 25 #[.int .i64 0, .int .i64 0, .int .i64 0, .int .i64 0, .int .i64 0, .int .i64 0, .int .i64 0, .bool false, .int .i64 0, .int .i64 0] (0, 0) _ rfl (by (with_reducible repeat (first | refine blk_drewN ?_ _ | refine blk_drew ?_ | refine blk_alloc ?_ _)); refine blk_put (cs := #[.int .i64 0, .int .i64 0, .int .i64 0, .int .i64 0, .int .i64 0, .int .i64 0, .int .i64 0, .bool false, .int .i64 0, .int .i64 x129009_1]) ?_ 9 _ rfl; (with_reducible repeat (first | refine blk_drewN ?_ _ | refine blk_drew ?_ | refine blk_alloc ?_ _)); refine blk_put (cs := #[.int .i64 0, .int .i64 0, .int .i64 0, .int .i64 0, .int .i64 0, .int .i64 0, .int .i64 0, .bool false, .int .i64 x129008_1, .int .i64 x129009_1]) ?_ 8 _ rfl; (with_reducible repeat (first | refine blk_drewN ?_ _ | refine blk_drew ?_ | refine blk_alloc ?_ _)); refine blk_put (cs := #[.int .i64 0, .int .i64 0, .int .i64 0, .int .i64 0, .int .i64 0, .int .i64 0, .int .i64 0, .bool x129007_1, .int .i64 x129008_1, .int .i64 x129009_1]) ?_ 7 _ rfl; (with_reducible repeat (first | refine blk_drewN ?_ _ | refine blk_drew ?_ | refine blk_alloc ?_ _)); refine blk_put (cs := #[.int .i64 0, .int .i64 0, .int .i64 0, .int .i64 0, .int .i64 0, .int .i64 0, .int .i64 x129006_1, .bool x129007_1, .int .i64 x129008_1, .int .i64 x129009_1]) ?_ 6 _ rfl; (with_reducible repeat (first | refine blk_drewN ?_ _ | refine blk_drew ?_ | refine blk_alloc ?_ _)); refine blk_put (cs := #[.int .i64 0, .int .i64 0, .int .i64 0, .int .i64 0, .int .i64 0, .int .i64 x129005_1, .int .i64 x129006_1, .bool x129007_1, .int .i64 x129008_1, .int .i64 x129009_1]) ?_ 5 _ rfl; (with_reducible repeat (first | refine blk_drewN ?_ _ | refine blk_drew ?_ | refine blk_alloc ?_ _)); refine blk_put (cs := #[.int .i64 0, .int .i64 0, .int .i64 0, .int .i64 0, .int .i64 x129004_1, .int .i64 x129005_1, .int .i64 x129006_1, .bool x129007_1, .int .i64 x129008_1, .int .i64 x129009_1]) ?_ 4 _ rfl; (with_reducible repeat (first | refine blk_drewN ?_ _ | refine blk_drew ?_ | refine blk_alloc ?_ _)); refine blk_put (cs := #[.int .i64 0, .int .i64 0, .int .i64 0, .int .i64 x129003_1, .int .i64 x129004_1, .int .i64 x129005_1, .int .i64 x129006_1, .bool x129007_1, .int .i64 x129008_1, .int .i64 x129009_1]) ?_ 3 _ rfl; (with_reducible repeat (first | refine blk_drewN ?_ _ | refine blk_drew ?_ | refine blk_alloc ?_ _)); refine blk_put (cs := #[.int .i64 0, .int .i64 0, .int .i64 x129002_1, .int .i64 x129003_1, .int .i64 x129004_1, .int .i64 x129005_1, .int .i64 x129006_1, .bool x129007_1, .int .i64 x129008_1, .int .i64 x129009_1]) ?_ 2 _ rfl; (with_reducible repeat (first | refine blk_drewN ?_ _ | refine blk_drew ?_ | refine blk_alloc ?_ _)); refine blk_put (cs := #[.int .i64 0, .int .i64 x129001_1, .int .i64 x129002_1, .int .i64 x129003_1, .int .i64 x129004_1, .int .i64 x129005_1, .int .i64 x129006_1, .bool x129007_1, .int .i64 x129008_1, .int .i64 x129009_1]) ?_ 1 _ rfl; (with_reducible repeat (first | refine blk_drewN ?_ _ | refine blk_drew ?_ | refine blk_alloc ?_ _)); refine blk_put (cs := #[.int .i64 x129000_1, .int .i64 x129001_1, .int .i64 x129002_1, .int .i64 x129003_1, .int .i64 x129004_1, .int .i64 x129005_1, .int .i64 x129006_1, .bool x129007_1, .int .i64 x129008_1, .int .i64 x129009_1]) ?_ 0 _ rfl; (with_reducible repeat (first | refine blk_drewN ?_ _ | refine blk_drew ?_ | refine blk_alloc ?_ _)); exact BK128.out) Tryd.underlying25 rfl (by kernel_rfl)) rfl ?_
                                exact ⟨by first | rfl | (simp [errW_none, errW_some] <;> rfl) | (simp [*, errW_none, errW_some] <;> rfl), by repeat (first | (with_reducible first | exact HB.out | apply below_alloc | apply pw_below_drewN | apply below_drew1 | refine below_set ?_ GE128.out | refine below_set ?_ GE164.out) | exact HB.out)⟩
                            · rw [if_neg c63] at H
                              exact absurd H (by simp)
                          · rw [if_neg c62] at H
                            exact absurd H (by simp)
                        · rw [if_neg c61] at H
                          exact absurd H (by simp)
                      · rw [if_neg c60] at H
                        exact absurd H (by simp)
                    · rw [if_neg c59] at H
                      exact absurd H (by simp)
                  · rw [if_neg c58] at H
                    exact absurd H (by simp)
                · rw [if_neg c57] at H
                  exact absurd H (by simp)
              · rw [if_neg c56] at H
                exact absurd H (by simp)
            · rw [if_neg c55] at H
              exact absurd H (by simp)
          · rw [if_neg c54] at H
            exact absurd H (by simp)

end Go.Proofs.YtgmkfhgebinfgaaDoor.PFnExactJobParse
