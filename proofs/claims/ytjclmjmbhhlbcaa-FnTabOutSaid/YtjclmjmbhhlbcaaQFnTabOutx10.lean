/- Functions of the program as Lean functions, with their contracts, written by a program of mine over the kit's printer and in part by hand. No condition of its own. -/
import Derived.Test.YtjclmjmbhhlbcaaQFnTabOutx0
import Derived.Test.YtjclmjmbhhlbcaaQFnTabOutx1
import Derived.Test.YtjclmjmbhhlbcaaQFnTabOutx4
import Derived.Test.YtjclmjmbhhlbcaaQFnTabOutx7
import Derived.Test.YtjclmjmbhhlbcaaQFnTabOutx9
namespace Go.Proofs.Ytjclmjmbhhlbcaa.PFnTabOut
open Go.RowKit Go.Proofs.YtjclmjmbhhlbcaaW.PrintWords Go.Proofs.YtjclmjmbhhlbcaaW.PrintLast Go.Proofs.YtjclmjmbhhlbcaaW.PrintMore
attribute [local go_sem] max2_int min2_int max_two min_two max_three min_three max_four min_four   -- for this text's walks alone
set_option linter.unusedVariables false
set_option linter.unusedSimpArgs false

attribute [local go_sem high] eqA26
/-! ### spec_l20Panes: function 62 -/
def spec_l20Panes.l0 : Nat → List (S89) → Int → List Int → Int → Option ((List (S89)) × Int)
 | 0, _, _, _, _ => none
 | k + 1, x3, x4, x1000, x1001 => if x4 > 0 then ((spec_l20Pane.f k x1000 x1001 30).bind fun bt308 => (if x3.length < 1954687338268 then (spec_l20Panes.l0 k (x3 ++ [(⟨bt308.1, (⟨bt308.2.1, bt308.2.2.1⟩ : S26), bt308.2.2.2.1, bt308.2.2.2.2.1, (⟨bt308.2.2.2.2.2.1, bt308.2.2.2.2.2.2.1, bt308.2.2.2.2.2.2.2.1, bt308.2.2.2.2.2.2.2.2.1⟩ : S34)⟩ : S89)]) (wrap64 (x4 - 1)) x1000 bt308.2.2.2.2.2.2.2.2.2) else (none))) else (some (x3, x1001))
def spec_l20Panes.f (k : Nat) (s0_0 : List Int) (s0_1 : Int) : Option ((List (S89)) × Int) := (spec_l20Rd_pick.f k s0_0 s0_1 9).bind fun bt306 => (spec_l20Panes.l0 k (([] : List (S89))) bt306.1 s0_0 bt306.2)
theorem spec_l20Panes.mono_l : ∀ k, (∀ y0 y1 y2 y3, LeO (spec_l20Panes.l0 k y0 y1 y2 y3) (spec_l20Panes.l0 (k + 1) y0 y1 y2 y3))
 | 0 => fun _ _ _ _ r h => by simp [spec_l20Panes.l0] at h
 | k + 1 => by
  have ih0 := spec_l20Panes.mono_l k
  ·intro y0 y1 y2 y3
   unfold spec_l20Panes.l0
   repeat' first
   | (with_reducible exact ih0 _ _ _ _)
   | (with_reducible exact spec_l20Pane.mono _ _ _ _)
   | (with_reducible exact spec_l20Rd_pick.mono _ _ _ _)
   | (with_reducible exact LeO.refl _)
   | (with_reducible exact LeO.none _)
   | (with_reducible refine LeO.ite ?_ ?_)
   | (with_reducible refine LeO.bind ?_ (fun _ => ?_))
   | exact ih0 _ _ _ _
   | exact spec_l20Pane.mono _ _ _ _
   | exact spec_l20Rd_pick.mono _ _ _ _
   | exact LeO.none _
   | refine LeO.ite ?_ ?_
   | refine LeO.bind ?_ (fun _ => ?_)
theorem spec_l20Panes.mono : ∀ a0 a1 k, LeO (spec_l20Panes.f k a0 a1) (spec_l20Panes.f (k + 1) a0 a1) := by
 intro a0 a1 k
 have ih0 := spec_l20Panes.mono_l k
 unfold spec_l20Panes.f
 repeat' first
   | (with_reducible exact ih0 _ _ _ _)
   | (with_reducible exact spec_l20Pane.mono _ _ _ _)
   | (with_reducible exact spec_l20Rd_pick.mono _ _ _ _)
   | (with_reducible exact LeO.refl _)
   | (with_reducible exact LeO.none _)
   | (with_reducible refine LeO.ite ?_ ?_)
   | (with_reducible refine LeO.bind ?_ (fun _ => ?_))
   | exact ih0 _ _ _ _
   | exact spec_l20Pane.mono _ _ _ _
   | exact spec_l20Rd_pick.mono _ _ _ _
   | exact LeO.none _
   | refine LeO.ite ?_ ?_
   | refine LeO.bind ?_ (fun _ => ?_)
set_option maxHeartbeats 8000000 in
set_option maxRecDepth 100000 in
theorem spec_l20Panes.calls (k : Nat) (g : Nat) (s0_0 : List Int) (s0_1 : Int) (r1 : List (S89)) (r2 : Int) (w0 w : World) (hI : I81_ w0 w g s0_0 s0_1) (hB : Below w0.heap.size w0 w) (h : spec_l20Panes.f k s0_0 s0_1 = some (r1, r2)) :
  Calls Try.prog 62 #[.pointer (some ⟨g, 0, none⟩)] w fun e w' => ∃ v0_ : Value, e = .returned (v0_) ∧ Kd.R k89 89 w' w.heap.size (fun _ => True) v0_ r1 ∧ I81_ w0 w' g s0_0 r2 ∧ Below w0.heap.size w0 w' ∧ KeepBut w w' g none := by
 have HI0 := Az_.mk hI
 have HG0 := Az_.mk (show g < w.heap.size from hI.lt)
 have HK := Az_.mk (KeepBut.refl w g none)
 have HL := Az_.mk hB.size
 clear hI
 have HW0 := Az_.mk hB.size
 have HB := Az_.mk hB
 clear hB
 have H : ((spec_l20Rd_pick.f k s0_0 s0_1 9).bind fun bt306 => (spec_l20Panes.l0 k (([] : List (S89))) bt306.1 s0_0 bt306.2)) = some (r1, r2) := h
 clear h
 obtain ⟨y303, hy303⟩ : ∃ y_ : List (S89), y_ = (([] : List (S89))) := ⟨_, rfl⟩
 replace H : ((spec_l20Rd_pick.f k s0_0 s0_1 9).bind fun bt306 => (spec_l20Panes.l0 k y303 bt306.1 s0_0 bt306.2)) = some (r1, r2) := by first | (rw [hy303]; with_reducible exact H) | (have H2_ := (Option.bind_some _ _).symm.trans H; rw [hy303]; with_reducible exact H2_) | (have H2_ := (Option.bind_some _ _).symm.trans H; with_reducible exact H2_) | with_reducible exact H | (rw [hy303]; exact H) | exact H
 have Ny303 := Az_.mk hy303
 clear hy303
 replace H := Option.bind_eq_some_iff.mp H
 obtain ⟨⟨t306, t307⟩, A20, H⟩ := H
 replace H : (spec_l20Panes.l0 k y303 t306 s0_0 t307) = some (r1, r2) := H
 have A2 := Az_.mk A20
 clear A20
 have H' := Az_.mk H
 clear H
 go_enter Try.func62, Try.ntmps62
 go_wp2_with (first | ((with_reducible refine gate_dst (N := 5) rfl ?_); refine Kd.R_lit k89 _ 89 ?hg (N := 5) ?hd (xs := ([] : List (S89))) (inner := []) (ok := fun _ => True) (okp := fun _ => True) ?hr ?hp (fun _ hk => hk) trivial (Below.refl _ _) (Nat.le_refl _) (by simp) ?_; (case hd => rfl); (case hg => rfl); (case hr => first | (go_simp; done) | (go_simp; rfl)); (case hp => exact (Reps.none _ _)); intro v304 w3 ho4 hb hg_ hnew_; clear hg_ hnew_; (first | rw [← Ny303.out] at ho4 | (simp only [Int.reduceToNat] at ho4; rw [← Ny303.out] at ho4)); have n0_ := Az_.mk (Kd.R_lower ho4 (keep_size (w := w) (g := g) (row := none) (by repeat (first | (with_reducible first | exact HK.out | apply KeepBut.set_ | apply kN_ | apply kD_ | apply kA_) | exact HK.out)))); have n1_ := Az_.mk (I81_.below (by repeat (first | (with_reducible first | exact HI0.out | apply I81_.alloc | apply I81_.drewN | apply I81_.drew | apply I81_.set_1) | exact HI0.out)) hb); have n2_ := Az_.mk (KeepBut.trans (by repeat (first | (with_reducible first | exact HK.out | apply KeepBut.set_ | apply kN_ | apply kD_ | apply kA_) | exact HK.out)) (KeepBut.of_below hb g none) (.inl rfl)); have n3_ := Az_.mk (below_step (by repeat (first | (with_reducible first | exact HB.out | apply eA_ | apply pN_ | apply eD_ | refine eS_ ?_ (I81_.ge HI0.out)) | exact HB.out)) hb); clear HI0; clear HK; clear HB; have HO305 := n0_; have HI0 := n1_; have HK := n2_; have HB := n3_; clear n0_ n1_ n2_ n3_; clear hb ho4) | ((with_reducible refine gate_callee (f := 53) rfl ?_); refine goesL_ (some 7) rfl rfl Try.func53 (by kernel_rfl) rfl #[.pointer (some ⟨g, 0, none⟩), .int .i64 9] rfl (by (try simp only [List.map_toArray, List.map_cons, List.map_nil]); first | done | rfl | (simp only [List.length_drop, List.length_take]; rfl)) ?_; (with_reducible refine (spec_l20Rd_pick.calls k g s0_0 s0_1 9 t306 t307 w0 _ ?side1 ?side2 A2.out).mono ?_); (case side1 => repeat (first | (with_reducible first | exact HI0.out | apply I81_.alloc | apply I81_.drewN | apply I81_.drew | apply I81_.set_1) | exact HI0.out)); (case side2 => repeat (first | (with_reducible first | exact HB.out | apply eA_ | apply pN_ | apply eD_ | refine eS_ ?_ (I81_.ge HI0.out)) | exact HB.out)); rintro e w5 ⟨rfl, hi, hb, hk⟩; refine ⟨_, rfl, ?_⟩; have n0_ := Az_.mk (Kd.R_mono (Kd.R_keep (I81_.apart (show I81_ w0 _ g s0_0 s0_1 from by repeat (first | (with_reducible first | exact HI0.out | apply I81_.alloc | apply I81_.drewN | apply I81_.drew | apply I81_.set_1) | exact HI0.out)) (by (with_reducible repeat (first | apply Kd.R_alloc | apply Kd.R_drewN | apply Kd.R_drew)); exact HO305.out) (by decide)) hk (fun _ h => h.2)) (fun _ h => h.1)); have n1_ := Az_.mk (KeepBut.trans (by repeat (first | (with_reducible first | exact HK.out | apply KeepBut.set_ | apply kN_ | apply kD_ | apply kA_) | exact HK.out)) hk (.inl rfl)); have n2_ := Az_.mk (hb); have n3_ := Az_.mk (hi); clear HO305; clear HK; clear HB; clear HI0; have HO305 := n0_; have HK := n1_; have HB := n2_; have HI0 := n3_; clear n0_ n1_ n2_ n3_; (try clear hb); (try clear hb2); (try clear hk); (try clear hi)))
 go_loopg [3, 4] k (fun kq v3 v4 w' => ∃ (x3_1 : List (S89)) (x4_1 : Int) (x1001_1 : Int), v4 = .int .i64 x4_1 ∧ Az_ (spec_l20Panes.l0 kq x3_1 x4_1 s0_0 x1001_1 = some (r1, r2)) ∧ Az_ (kq ≤ k) ∧ Az_ (Kd.R k89 89 w' w.heap.size (fun _ => True) v3 x3_1) ∧ Az_ (I81_ w0 w' g s0_0 x1001_1) ∧ Az_ (KeepBut w w' g none) ∧ Az_ (Below w0.heap.size w0 w'))
 case atStart => exact ⟨(y303), (t306), (t307), (by first | rfl | (simp; done) | (simp [*]; done)), H', ⟨Nat.le_refl _⟩, ⟨by (with_reducible repeat (first | apply Kd.R_alloc | apply Kd.R_drewN | apply Kd.R_drew)); exact HO305.out⟩, ⟨by repeat (first | (with_reducible first | exact HI0.out | apply I81_.alloc | apply I81_.drewN | apply I81_.drew | apply I81_.set_1) | exact HI0.out)⟩, ⟨by repeat (first | (with_reducible first | exact HK.out | apply KeepBut.set_ | apply kN_ | apply kD_ | apply kA_) | exact HK.out)⟩, ⟨by repeat (first | (with_reducible first | exact HB.out | apply eA_ | apply pN_ | apply eD_ | refine eS_ ?_ (I81_.ge HI0.out)) | exact HB.out)⟩⟩
 case round =>
  clear H'
  try clear p2
  try clear c5
  obtain ⟨x3_1, x4_1, x1001_1, rfl, HA, HK1, HO_3, HI0, HK, HB⟩ := hrel
  cases gk with
  | zero => exact absurd HA.out (by simp [spec_l20Panes.l0])
  | succ k1 =>
   have H := HA.out
   clear HA
   simp only [spec_l20Panes.l0] at H
   by_cases c6 : x4_1 > 0
   ·rw [if_pos c6] at H
    have c6b0 : decide (0 < x4_1) = true := decide_eq_true c6
    clear c6
    replace H := Option.bind_eq_some_iff.mp H
    obtain ⟨⟨t308, t309, t310, t311, t312, t313, t314, t315, t316, t317⟩, A70, H⟩ := H
    replace H : (if x3_1.length < 1954687338268 then (spec_l20Panes.l0 k1 (x3_1 ++ [(⟨t308, (⟨t309, t310⟩ : S26), t311, t312, (⟨t313, t314, t315, t316⟩ : S34)⟩ : S89)]) (wrap64 (x4_1 - 1)) s0_0 t317) else (none)) = some (r1, r2) := H
    have A7 := Az_.mk A70
    clear A70
    by_cases c8 : x3_1.length < 1954687338268
    ·rw [if_pos c8] at H
     have LMc8 := Az_.mk c8
     clear c8
     obtain ⟨y318, hy318⟩ : ∃ y_ : List (S89), y_ = (x3_1 ++ [(⟨t308, (⟨t309, t310⟩ : S26), t311, t312, (⟨t313, t314, t315, t316⟩ : S34)⟩ : S89)]) := ⟨_, rfl⟩
     replace H : (spec_l20Panes.l0 k1 y318 (wrap64 (x4_1 - 1)) s0_0 t317) = some (r1, r2) := by first | (rw [hy318]; with_reducible exact H) | (have H2_ := (Option.bind_some _ _).symm.trans H; rw [hy318]; with_reducible exact H2_) | (have H2_ := (Option.bind_some _ _).symm.trans H; with_reducible exact H2_) | with_reducible exact H | (rw [hy318]; exact H) | exact H
     have Ny318 := Az_.mk hy318
     clear hy318
     have H' := Az_.mk H
     clear H
     go_wp2_with (first | ((with_reducible refine gate_callee (f := 65) rfl ?_); refine goesL_ (some 14) rfl rfl Try.func65 (by kernel_rfl) rfl #[.pointer (some ⟨g, 0, none⟩), .int .i64 30] rfl (by (try simp only [List.map_toArray, List.map_cons, List.map_nil]); first | done | rfl | (simp only [List.length_drop, List.length_take]; rfl)) ?_; (with_reducible refine (spec_l20Pane.calls k1 g s0_0 x1001_1 30 t308 t309 t310 t311 t312 t313 t314 t315 t316 t317 w0 _ ?side1 ?side2 A7.out).mono ?_); (case side1 => repeat (first | (with_reducible first | exact HI0.out | apply I81_.alloc | apply I81_.drewN | apply I81_.drew | apply I81_.set_1) | exact HI0.out)); (case side2 => repeat (first | (with_reducible first | exact HB.out | apply eA_ | apply pN_ | apply eD_ | refine eS_ ?_ (I81_.ge HI0.out)) | exact HB.out)); rintro e w9 ⟨rfl, hi, hb, hk⟩; refine ⟨_, rfl, ?_⟩; have n0_ := Az_.mk (Kd.R_mono (Kd.R_keep (I81_.apart (show I81_ w0 _ g s0_0 x1001_1 from by repeat (first | (with_reducible first | exact HI0.out | apply I81_.alloc | apply I81_.drewN | apply I81_.drew | apply I81_.set_1) | exact HI0.out)) (by (with_reducible repeat (first | apply Kd.R_alloc | apply Kd.R_drewN | apply Kd.R_drew)); exact HO_3.out) (by decide)) hk (fun _ h => h.2)) (fun _ h => h.1)); have n1_ := Az_.mk (KeepBut.trans (by repeat (first | (with_reducible first | exact HK.out | apply KeepBut.set_ | apply kN_ | apply kD_ | apply kA_) | exact HK.out)) hk (.inl rfl)); have n2_ := Az_.mk (hb); have n3_ := Az_.mk (hi); clear HO_3; clear HK; clear HB; clear HI0; have HO_3 := n0_; have HK := n1_; have HB := n2_; have HI0 := n3_; clear n0_ n1_ n2_ n3_; (try clear hb); (try clear hb2); (try clear hk); (try clear hi)) | ((with_reducible refine gate_builtin (b := .append) (xs := #[.tmp 12, .tmp 15]) rfl ?_); at_builtin; refine Kd.R_append k89 w.heap.size rfl (.tmp 12) (.tmp 15) 83 89 (.agg #[(.int .i64 0), (.int .i64 0), (.int .i64 0), (.int .i64 0), (.int .i64 0), (.int .i64 0), (.int .i64 0), (.int .i64 0), (.int .i64 0)]) 72 rfl Try.underlying83 info89 rfl (by decide) (by omega) u3 x3_1 (⟨t308, (⟨t309, t310⟩ : S26), t311, t312, (⟨t313, t314, t315, t316⟩ : S34)⟩ : S89) [.int .i64 t308, .int .i64 t309, .int .i64 t310, .int .i64 t311, .int .i64 t312, .int .i64 t313, .int .i64 t314, .int .i64 t315, .int .i64 t316] (fun _ => True) (fun _ => False) rfl rfl ?aP (fun _ hk => hk.elim) ?aF ?aO (Below.refl _ _) ?aS ?aL ?_; (case aP => exact k89_mkM _ _ _ (⟨t308, (⟨t309, t310⟩ : S26), t311, t312, (⟨t313, t314, t315, t316⟩ : S34)⟩ : S89)); (case aF => exact (fun _ _ => trivial)); (case aO => exact (by (with_reducible repeat (first | apply Kd.R_alloc | apply Kd.R_drewN | apply Kd.R_drew)); exact HO_3.out)); (case aS => exact (keep_size (w := w) (g := g) (row := none) (by repeat (first | (with_reducible first | exact HK.out | apply KeepBut.set_ | apply kN_ | apply kD_ | apply kA_) | exact HK.out)))); (case aL => have := LMc8.out; omega); intro v319 w10 ho hb hg hat; rw [← Ny318.out] at ho; have n0_ := Az_.mk (I81_.grown (by repeat (first | (with_reducible first | exact HI0.out | apply I81_.alloc | apply I81_.drewN | apply I81_.drew | apply I81_.set_1) | exact HI0.out)) hg (I81_.own_ne HI0.out HO_3.out (by decide))); have n1_ := Az_.mk (below_weaken (by repeat (first | (with_reducible first | exact HB.out | apply eA_ | apply pN_ | apply eD_ | refine eS_ ?_ (I81_.ge HI0.out)) | exact HB.out)) HL.out hb); have n2_ := Az_.mk (KeepBut.trans (by repeat (first | (with_reducible first | exact HK.out | apply KeepBut.set_ | apply kN_ | apply kD_ | apply kA_) | exact HK.out)) (KeepBut.of_grown hg g) (Kd.R_base2 HO_3.out)); have n3_ := Az_.mk (ho); clear HI0; clear HB; clear HK; clear HO_3; have HI0 := n0_; have HB := n1_; have HK := n2_; have HO320 := n3_; clear n0_ n1_ n2_ n3_; clear ho hb hg hat))
     go_roundg k1
     case measure => have := HK1.out; omega
     case rel => exact ⟨(y318), (wrap64 (x4_1 - 1)), (t317), (by first | rfl | (simp; done) | (simp [*]; done)), H', ⟨by have := HK1.out; omega⟩, ⟨by (with_reducible repeat (first | apply Kd.R_alloc | apply Kd.R_drewN | apply Kd.R_drew)); exact HO320.out⟩, ⟨by repeat (first | (with_reducible first | exact HI0.out | apply I81_.alloc | apply I81_.drewN | apply I81_.drew | apply I81_.set_1) | exact HI0.out)⟩, ⟨by repeat (first | (with_reducible first | exact HK.out | apply KeepBut.set_ | apply kN_ | apply kD_ | apply kA_) | exact HK.out)⟩, ⟨by repeat (first | (with_reducible first | exact HB.out | apply eA_ | apply pN_ | apply eD_ | refine eS_ ?_ (I81_.ge HI0.out)) | exact HB.out)⟩⟩
    ·rw [if_neg c8] at H
     exact absurd H (by simp)
   ·rw [if_neg c6] at H
    have c6b0 : decide (0 < x4_1) = false := decide_eq_false c6
    clear c6
    simp only [Option.some.injEq, Prod.mk.injEq] at H
    obtain ⟨rfl, rfl⟩ := H
    go_wp2
    go_ret
    exact ⟨_, by first | rfl | (simp [errW_none, errW_some] <;> rfl) | (simp [*, errW_none, errW_some] <;> rfl), by (with_reducible repeat (first | apply Kd.R_alloc | apply Kd.R_drewN | apply Kd.R_drew)); exact HO_3.out, by repeat (first | (with_reducible first | exact HI0.out | apply I81_.alloc | apply I81_.drewN | apply I81_.drew | apply I81_.set_1) | exact HI0.out), by repeat (first | (with_reducible first | exact HB.out | apply eA_ | apply pN_ | apply eD_ | refine eS_ ?_ (I81_.ge HI0.out)) | exact HB.out), by repeat (first | (with_reducible first | exact HK.out | apply KeepBut.set_ | apply kN_ | apply kD_ | apply kA_) | exact HK.out)⟩

/-! ### spec_l20Rows: function 52 -/
def spec_l20Rows.f (k : Nat) (s0_0 : List Int) (s0_1 : Int) : Option ((List (S67)) × Int) := (spec_l20Panes.f k s0_0 s0_1).bind fun bt321 => ((spec_l20Rd_pick.f k s0_0 bt321.2 2).bind fun bt325 => ((spec_TabOf.f k bt321.1 (bt325.1 == 0)).bind fun t327 => ((spec_l20Rd_pick.f k s0_0 bt325.2 8).bind fun bt330 => (if bt330.1 = 0 then (if (t327.length : Int) > 0 then (if 0 < (t327.length : Int) then (if t327.length < 2513169434916 then (some ((t327 ++ [(⟨(rd_T67 t327 0).f0, (⟨(rd_T67 t327 0).f1.f0, (rd_T67 t327 0).f1.f1⟩ : S26), (⟨(rd_T67 t327 0).f2.f0, (rd_T67 t327 0).f2.f1, (rd_T67 t327 0).f2.f2, (rd_T67 t327 0).f2.f3⟩ : S34)⟩ : S67)]), bt330.2)) else (none)) else (none)) else (some (t327, bt330.2))) else (some (t327, bt330.2))))))
theorem spec_l20Rows.mono : ∀ a0 a1 k, LeO (spec_l20Rows.f k a0 a1) (spec_l20Rows.f (k + 1) a0 a1) := by
 intro a0 a1 k
 unfold spec_l20Rows.f
 repeat' first
   | (with_reducible exact spec_TabOf.mono _ _ _)
   | (with_reducible exact spec_l20Panes.mono _ _ _)
   | (with_reducible exact spec_l20Rd_pick.mono _ _ _ _)
   | (with_reducible exact LeO.refl _)
   | (with_reducible exact LeO.none _)
   | (with_reducible refine LeO.ite ?_ ?_)
   | (with_reducible refine LeO.bind ?_ (fun _ => ?_))
   | exact spec_TabOf.mono _ _ _
   | exact spec_l20Panes.mono _ _ _
   | exact spec_l20Rd_pick.mono _ _ _ _
   | exact LeO.none _
   | refine LeO.ite ?_ ?_
   | refine LeO.bind ?_ (fun _ => ?_)
set_option maxHeartbeats 8000000 in
set_option maxRecDepth 100000 in
theorem spec_l20Rows.calls (k : Nat) (g : Nat) (s0_0 : List Int) (s0_1 : Int) (r1 : List (S67)) (r2 : Int) (w0 w : World) (hI : I81_ w0 w g s0_0 s0_1) (hB : Below w0.heap.size w0 w) (h : spec_l20Rows.f k s0_0 s0_1 = some (r1, r2)) :
  Calls Try.prog 52 #[.pointer (some ⟨g, 0, none⟩)] w fun e w' => ∃ v0_ : Value, e = .returned (v0_) ∧ Kd.R k67 67 w' w.heap.size (fun _ => True) v0_ r1 ∧ I81_ w0 w' g s0_0 r2 ∧ Below w0.heap.size w0 w' ∧ KeepBut w w' g none := by
 have hu67 := Try.underlying67
 have HI0 := Az_.mk hI
 have HG0 := Az_.mk (show g < w.heap.size from hI.lt)
 have HK := Az_.mk (KeepBut.refl w g none)
 have HL := Az_.mk hB.size
 clear hI
 have HW0 := Az_.mk hB.size
 have HB := Az_.mk hB
 clear hB
 have H : ((spec_l20Panes.f k s0_0 s0_1).bind fun bt321 => ((spec_l20Rd_pick.f k s0_0 bt321.2 2).bind fun bt325 => ((spec_TabOf.f k bt321.1 (bt325.1 == 0)).bind fun t327 => ((spec_l20Rd_pick.f k s0_0 bt325.2 8).bind fun bt330 => (if bt330.1 = 0 then (if (t327.length : Int) > 0 then (if 0 < (t327.length : Int) then (if t327.length < 2513169434916 then (some ((t327 ++ [(⟨(rd_T67 t327 0).f0, (⟨(rd_T67 t327 0).f1.f0, (rd_T67 t327 0).f1.f1⟩ : S26), (⟨(rd_T67 t327 0).f2.f0, (rd_T67 t327 0).f2.f1, (rd_T67 t327 0).f2.f2, (rd_T67 t327 0).f2.f3⟩ : S34)⟩ : S67)]), bt330.2)) else (none)) else (none)) else (some (t327, bt330.2))) else (some (t327, bt330.2))))))) = some (r1, r2) := h
 clear h
 replace H := Option.bind_eq_some_iff.mp H
 obtain ⟨⟨t321, t324⟩, A20, H⟩ := H
 replace H : ((spec_l20Rd_pick.f k s0_0 t324 2).bind fun bt325 => ((spec_TabOf.f k t321 (bt325.1 == 0)).bind fun t327 => ((spec_l20Rd_pick.f k s0_0 bt325.2 8).bind fun bt330 => (if bt330.1 = 0 then (if (t327.length : Int) > 0 then (if 0 < (t327.length : Int) then (if t327.length < 2513169434916 then (some ((t327 ++ [(⟨(rd_T67 t327 0).f0, (⟨(rd_T67 t327 0).f1.f0, (rd_T67 t327 0).f1.f1⟩ : S26), (⟨(rd_T67 t327 0).f2.f0, (rd_T67 t327 0).f2.f1, (rd_T67 t327 0).f2.f2, (rd_T67 t327 0).f2.f3⟩ : S34)⟩ : S67)]), bt330.2)) else (none)) else (none)) else (some (t327, bt330.2))) else (some (t327, bt330.2)))))) = some (r1, r2) := H
 have A2 := Az_.mk A20
 clear A20
 replace H := Option.bind_eq_some_iff.mp H
 obtain ⟨⟨t325, t326⟩, A30, H⟩ := H
 replace H : ((spec_TabOf.f k t321 (t325 == 0)).bind fun t327 => ((spec_l20Rd_pick.f k s0_0 t326 8).bind fun bt330 => (if bt330.1 = 0 then (if (t327.length : Int) > 0 then (if 0 < (t327.length : Int) then (if t327.length < 2513169434916 then (some ((t327 ++ [(⟨(rd_T67 t327 0).f0, (⟨(rd_T67 t327 0).f1.f0, (rd_T67 t327 0).f1.f1⟩ : S26), (⟨(rd_T67 t327 0).f2.f0, (rd_T67 t327 0).f2.f1, (rd_T67 t327 0).f2.f2, (rd_T67 t327 0).f2.f3⟩ : S34)⟩ : S67)]), bt330.2)) else (none)) else (none)) else (some (t327, bt330.2))) else (some (t327, bt330.2))))) = some (r1, r2) := H
 have A3 := Az_.mk A30
 clear A30
 replace H := Option.bind_eq_some_iff.mp H
 obtain ⟨t327, A40, H⟩ := H
 replace H : ((spec_l20Rd_pick.f k s0_0 t326 8).bind fun bt330 => (if bt330.1 = 0 then (if (t327.length : Int) > 0 then (if 0 < (t327.length : Int) then (if t327.length < 2513169434916 then (some ((t327 ++ [(⟨(rd_T67 t327 0).f0, (⟨(rd_T67 t327 0).f1.f0, (rd_T67 t327 0).f1.f1⟩ : S26), (⟨(rd_T67 t327 0).f2.f0, (rd_T67 t327 0).f2.f1, (rd_T67 t327 0).f2.f2, (rd_T67 t327 0).f2.f3⟩ : S34)⟩ : S67)]), bt330.2)) else (none)) else (none)) else (some (t327, bt330.2))) else (some (t327, bt330.2)))) = some (r1, r2) := H
 have A4 := Az_.mk A40
 clear A40
 replace H := Option.bind_eq_some_iff.mp H
 obtain ⟨⟨t330, t331⟩, A50, H⟩ := H
 replace H : (if t330 = 0 then (if (t327.length : Int) > 0 then (if 0 < (t327.length : Int) then (if t327.length < 2513169434916 then (some ((t327 ++ [(⟨(rd_T67 t327 0).f0, (⟨(rd_T67 t327 0).f1.f0, (rd_T67 t327 0).f1.f1⟩ : S26), (⟨(rd_T67 t327 0).f2.f0, (rd_T67 t327 0).f2.f1, (rd_T67 t327 0).f2.f2, (rd_T67 t327 0).f2.f3⟩ : S34)⟩ : S67)]), t331)) else (none)) else (none)) else (some (t327, t331))) else (some (t327, t331))) = some (r1, r2) := H
 have A5 := Az_.mk A50
 clear A50
 by_cases c6 : t330 = 0
 ·rw [if_pos c6] at H
  have c6b0 : (t330 == 0) = true := beq_iff_eq.mpr c6
  have c6b1 : (t330 != 0) = false := bne_eq_false_iff_eq.mpr c6
  clear c6
  by_cases c7 : (t327.length : Int) > 0
  ·rw [if_pos c7] at H
   have c7b0 : decide (0 < (t327.length : Int)) = true := decide_eq_true c7
   have c7b1 : decide (0 < t327.length) = true := decide_eq_true (by omega)
   clear c7
   by_cases c8 : 0 < (t327.length : Int)
   ·rw [if_pos c8] at H
    have c8b0 : decide (0 < (t327.length : Int)) = true := decide_eq_true c8
    have c8b1 : decide (0 < t327.length) = true := decide_eq_true (by omega)
    clear c8
    by_cases c9 : t327.length < 2513169434916
    ·rw [if_pos c9] at H
     have LMc9 := Az_.mk c9
     clear c9
     obtain ⟨y333, hy333⟩ : ∃ y_ : List (S67), y_ = (t327 ++ [(⟨(rd_T67 t327 0).f0, (⟨(rd_T67 t327 0).f1.f0, (rd_T67 t327 0).f1.f1⟩ : S26), (⟨(rd_T67 t327 0).f2.f0, (rd_T67 t327 0).f2.f1, (rd_T67 t327 0).f2.f2, (rd_T67 t327 0).f2.f3⟩ : S34)⟩ : S67)]) := ⟨_, rfl⟩
     replace H : (some (y333, t331)) = some (r1, r2) := by first | (rw [hy333]; with_reducible exact H) | (have H2_ := (Option.bind_some _ _).symm.trans H; rw [hy333]; with_reducible exact H2_) | (have H2_ := (Option.bind_some _ _).symm.trans H; with_reducible exact H2_) | with_reducible exact H | (rw [hy333]; exact H) | exact H
     have Ny333 := Az_.mk hy333
     clear hy333
     simp only [Option.some.injEq, Prod.mk.injEq] at H
     obtain ⟨rfl, rfl⟩ := H
     go_enter Try.func52, Try.ntmps52
     go_wp2_with (first | ((with_reducible refine gate_callee (f := 62) rfl ?_); refine goesL_ (some 5) rfl rfl Try.func62 (by kernel_rfl) rfl #[.pointer (some ⟨g, 0, none⟩)] rfl (by (try simp only [List.map_toArray, List.map_cons, List.map_nil]); first | done | rfl | (simp only [List.length_drop, List.length_take]; rfl)) ?_; (with_reducible refine (spec_l20Panes.calls k g s0_0 s0_1 t321 t324 w0 _ ?side1 ?side2 A2.out).mono ?_); (case side1 => repeat (first | (with_reducible first | exact HI0.out | apply I81_.alloc | apply I81_.drewN | apply I81_.drew | apply I81_.set_1) | exact HI0.out)); (case side2 => repeat (first | (with_reducible first | exact HB.out | apply eA_ | apply pN_ | apply eD_ | refine eS_ ?_ (I81_.ge HI0.out)) | exact HB.out)); rintro e w10 ⟨v322, rfl, ho0, hi, hb, hk⟩; refine ⟨_, rfl, ?_⟩; have n0_ := Az_.mk (Kd.R_lower ho0 (keep_size (w := w) (g := g) (row := none) (by repeat (first | (with_reducible first | exact HK.out | apply KeepBut.set_ | apply kN_ | apply kD_ | apply kA_) | exact HK.out)))); have n1_ := Az_.mk (KeepBut.trans (by repeat (first | (with_reducible first | exact HK.out | apply KeepBut.set_ | apply kN_ | apply kD_ | apply kA_) | exact HK.out)) hk (.inl rfl)); have n2_ := Az_.mk (hb); have n3_ := Az_.mk (hi); clear HK; clear HB; clear HI0; have HO323 := n0_; have HK := n1_; have HB := n2_; have HI0 := n3_; clear n0_ n1_ n2_ n3_; (try clear hb); (try clear hb2); (try clear hk); (try clear hi); (try clear ho0)) | ((with_reducible refine gate_callee (f := 53) rfl ?_); refine goesL_ (some 7) rfl rfl Try.func53 (by kernel_rfl) rfl #[.pointer (some ⟨g, 0, none⟩), .int .i64 2] rfl (by (try simp only [List.map_toArray, List.map_cons, List.map_nil]); first | done | rfl | (simp only [List.length_drop, List.length_take]; rfl)) ?_; (with_reducible refine (spec_l20Rd_pick.calls k g s0_0 t324 2 t325 t326 w0 _ ?side1 ?side2 A3.out).mono ?_); (case side1 => repeat (first | (with_reducible first | exact HI0.out | apply I81_.alloc | apply I81_.drewN | apply I81_.drew | apply I81_.set_1) | exact HI0.out)); (case side2 => repeat (first | (with_reducible first | exact HB.out | apply eA_ | apply pN_ | apply eD_ | refine eS_ ?_ (I81_.ge HI0.out)) | exact HB.out)); rintro e w11 ⟨rfl, hi, hb, hk⟩; refine ⟨_, rfl, ?_⟩; have n0_ := Az_.mk (Kd.R_mono (Kd.R_keep (I81_.apart (show I81_ w0 _ g s0_0 t324 from by repeat (first | (with_reducible first | exact HI0.out | apply I81_.alloc | apply I81_.drewN | apply I81_.drew | apply I81_.set_1) | exact HI0.out)) (by (with_reducible repeat (first | apply Kd.R_alloc | apply Kd.R_drewN | apply Kd.R_drew)); exact HO323.out) (by decide)) hk (fun _ h => h.2)) (fun _ h => h.1)); have n1_ := Az_.mk (KeepBut.trans (by repeat (first | (with_reducible first | exact HK.out | apply KeepBut.set_ | apply kN_ | apply kD_ | apply kA_) | exact HK.out)) hk (.inl rfl)); have n2_ := Az_.mk (hb); have n3_ := Az_.mk (hi); clear HO323; clear HK; clear HB; clear HI0; have HO323 := n0_; have HK := n1_; have HB := n2_; have HI0 := n3_; clear n0_ n1_ n2_ n3_; (try clear hb); (try clear hb2); (try clear hk); (try clear hi); obtain ⟨Ao12, co12, eo12⟩ := Kd.R_slice HO323.out; subst eo12) | ((with_reducible refine gate_callee (f := 61) rfl ?_); refine goesL_ (some 9) rfl rfl Try.func61 (by kernel_rfl) rfl #[.slice Ao12 t321.length co12, .bool (t325 == 0)] rfl (by (try simp only [List.map_toArray, List.map_cons, List.map_nil]); first | done | rfl | (simp only [List.length_drop, List.length_take]; rfl)) ?_; (with_reducible refine (spec_TabOf.calls k _ _ t321 (t325 == 0) t327 _ ?side1 ?side2 A4.out).mono ?_); (case side1 => repeat (first | exact (Kd.R_reads' HO323.out).2.2 | (with_reducible refine Kd.C_alloc ?_ _) | (with_reducible refine Kd.C_drewN ?_ _) | (with_reducible refine Kd.C_drew ?_))); (case side2 => exact (Kd.R_reads' HO323.out).2.1); rintro e w13 ⟨v328, rfl, ho0, hb⟩; refine ⟨_, rfl, ?_⟩; have n0_ := Az_.mk (Kd.R_below (by (with_reducible repeat (first | apply Kd.R_alloc | apply Kd.R_drewN | apply Kd.R_drew)); exact HO323.out) hb); have n1_ := Az_.mk (Kd.R_lower ho0 (keep_size (w := w) (g := g) (row := none) (by repeat (first | (with_reducible first | exact HK.out | apply KeepBut.set_ | apply kN_ | apply kD_ | apply kA_) | exact HK.out)))); have n2_ := Az_.mk (I81_.below (by repeat (first | (with_reducible first | exact HI0.out | apply I81_.alloc | apply I81_.drewN | apply I81_.drew | apply I81_.set_1) | exact HI0.out)) hb); have n3_ := Az_.mk (KeepBut.trans (by repeat (first | (with_reducible first | exact HK.out | apply KeepBut.set_ | apply kN_ | apply kD_ | apply kA_) | exact HK.out)) (KeepBut.of_below hb g none) (.inl rfl)); have n4_ := Az_.mk (below_step (by repeat (first | (with_reducible first | exact HB.out | apply eA_ | apply pN_ | apply eD_ | refine eS_ ?_ (I81_.ge HI0.out)) | exact HB.out)) hb); clear HO323; clear HI0; clear HK; clear HB; have HO323 := n0_; have HO329 := n1_; have HI0 := n2_; have HK := n3_; have HB := n4_; clear n0_ n1_ n2_ n3_ n4_; (try clear hb); (try clear hb2); (try clear hk); (try clear hi); (try clear ho0)) | ((with_reducible refine gate_callee (f := 53) rfl ?_); refine goesL_ (some 11) rfl rfl Try.func53 (by kernel_rfl) rfl #[.pointer (some ⟨g, 0, none⟩), .int .i64 8] rfl (by (try simp only [List.map_toArray, List.map_cons, List.map_nil]); first | done | rfl | (simp only [List.length_drop, List.length_take]; rfl)) ?_; (with_reducible refine (spec_l20Rd_pick.calls k g s0_0 t326 8 t330 t331 w0 _ ?side1 ?side2 A5.out).mono ?_); (case side1 => repeat (first | (with_reducible first | exact HI0.out | apply I81_.alloc | apply I81_.drewN | apply I81_.drew | apply I81_.set_1) | exact HI0.out)); (case side2 => repeat (first | (with_reducible first | exact HB.out | apply eA_ | apply pN_ | apply eD_ | refine eS_ ?_ (I81_.ge HI0.out)) | exact HB.out)); rintro e w14 ⟨rfl, hi, hb, hk⟩; refine ⟨_, rfl, ?_⟩; have n0_ := Az_.mk (Kd.R_mono (Kd.R_keep (I81_.apart (show I81_ w0 _ g s0_0 t326 from by repeat (first | (with_reducible first | exact HI0.out | apply I81_.alloc | apply I81_.drewN | apply I81_.drew | apply I81_.set_1) | exact HI0.out)) (by (with_reducible repeat (first | apply Kd.R_alloc | apply Kd.R_drewN | apply Kd.R_drew)); exact HO323.out) (by decide)) hk (fun _ h => h.2)) (fun _ h => h.1)); have n1_ := Az_.mk (Kd.R_mono (Kd.R_keep (I81_.apart (show I81_ w0 _ g s0_0 t326 from by repeat (first | (with_reducible first | exact HI0.out | apply I81_.alloc | apply I81_.drewN | apply I81_.drew | apply I81_.set_1) | exact HI0.out)) (by (with_reducible repeat (first | apply Kd.R_alloc | apply Kd.R_drewN | apply Kd.R_drew)); exact HO329.out) (by decide)) hk (fun _ h => h.2)) (fun _ h => h.1)); have n2_ := Az_.mk (KeepBut.trans (by repeat (first | (with_reducible first | exact HK.out | apply KeepBut.set_ | apply kN_ | apply kD_ | apply kA_) | exact HK.out)) hk (.inl rfl)); have n3_ := Az_.mk (hb); have n4_ := Az_.mk (hi); clear HO323; clear HO329; clear HK; clear HB; clear HI0; have HO323 := n0_; have HO329 := n1_; have HK := n2_; have HB := n3_; have HI0 := n4_; clear n0_ n1_ n2_ n3_ n4_; (try clear hb); (try clear hb2); (try clear hk); (try clear hi); obtain ⟨Ao15, co15, eo15⟩ := Kd.R_slice HO329.out; subst eo15; have p332 : 0 ≤ (0 : Int) := (by omega); have q332 : 0 < (t327.length : Int) := of_decide_eq_true (by first | (with_reducible assumption) | assumption); obtain ⟨ad332, e332, hx332_0, hx332_1, hx332_2, hx332_3, hx332_4, hx332_5, hx332_6⟩ := at_T67 (Kd.R_reads' HO329.out).2.2 0 p332 q332; cases e332; have qi332 : (0 < t327.length) = True := eq_true (by omega); (try rw [show ((0 : Int)).toNat = 0 from rfl] at hx332_0); (try rw [show 0 * 7 = 0 from rfl] at hx332_0); (try rw [Addr.add_zero'] at hx332_0); (try rw [show ((0 : Int)).toNat = 0 from rfl] at hx332_1); (try rw [show 0 * 7 = 0 from rfl] at hx332_1); (try rw [Addr.add_zero'] at hx332_1); (try rw [show ((0 : Int)).toNat = 0 from rfl] at hx332_2); (try rw [show 0 * 7 = 0 from rfl] at hx332_2); (try rw [Addr.add_zero'] at hx332_2); (try rw [show ((0 : Int)).toNat = 0 from rfl] at hx332_3); (try rw [show 0 * 7 = 0 from rfl] at hx332_3); (try rw [Addr.add_zero'] at hx332_3); (try rw [show ((0 : Int)).toNat = 0 from rfl] at hx332_4); (try rw [show 0 * 7 = 0 from rfl] at hx332_4); (try rw [Addr.add_zero'] at hx332_4); (try rw [show ((0 : Int)).toNat = 0 from rfl] at hx332_5); (try rw [show 0 * 7 = 0 from rfl] at hx332_5); (try rw [Addr.add_zero'] at hx332_5); (try rw [show ((0 : Int)).toNat = 0 from rfl] at hx332_6); (try rw [show 0 * 7 = 0 from rfl] at hx332_6); (try rw [Addr.add_zero'] at hx332_6); replace p332 := eq_true p332; replace q332 := eq_true q332) | ((with_reducible refine gate_builtin (b := .append) (xs := #[.tmp 18, .tmp 22]) rfl ?_); (try (refine gate_guard (by rfl) ?_; dsimp only)); at_builtin; refine Kd.R_append k67 w.heap.size rfl (.tmp 18) (.tmp 22) 39 67 (.agg #[(.int .i64 0), (.int .i64 0), (.int .i64 0), (.int .i64 0), (.int .i64 0), (.int .i64 0), (.int .i64 0)]) 56 rfl Try.underlying39 info67 rfl (by decide) (by omega) (.slice (some ad332) t327.length co15) t327 (⟨(rd_T67 t327 0).f0, (⟨(rd_T67 t327 0).f1.f0, (rd_T67 t327 0).f1.f1⟩ : S26), (⟨(rd_T67 t327 0).f2.f0, (rd_T67 t327 0).f2.f1, (rd_T67 t327 0).f2.f2, (rd_T67 t327 0).f2.f3⟩ : S34)⟩ : S67) [.int .i64 ((rd_T67 t327 0).f0), .int .i64 ((rd_T67 t327 0).f1.f0), .int .i64 ((rd_T67 t327 0).f1.f1), .int .i64 ((rd_T67 t327 0).f2.f0), .int .i64 ((rd_T67 t327 0).f2.f1), .int .i64 ((rd_T67 t327 0).f2.f2), .int .i64 ((rd_T67 t327 0).f2.f3)] (fun _ => True) (fun _ => False) rfl rfl ?aP (fun _ hk => hk.elim) ?aF ?aO (Below.refl _ _) ?aS ?aL ?_; (case aP => exact k67_mkM _ _ _ (⟨(rd_T67 t327 0).f0, (⟨(rd_T67 t327 0).f1.f0, (rd_T67 t327 0).f1.f1⟩ : S26), (⟨(rd_T67 t327 0).f2.f0, (rd_T67 t327 0).f2.f1, (rd_T67 t327 0).f2.f2, (rd_T67 t327 0).f2.f3⟩ : S34)⟩ : S67)); (case aF => exact (fun _ _ => trivial)); (case aO => exact (by (with_reducible repeat (first | apply Kd.R_alloc | apply Kd.R_drewN | apply Kd.R_drew)); exact HO329.out)); (case aS => exact (keep_size (w := w) (g := g) (row := none) (by repeat (first | (with_reducible first | exact HK.out | apply KeepBut.set_ | apply kN_ | apply kD_ | apply kA_) | exact HK.out)))); (case aL => have := LMc9.out; omega); intro v334 w16 ho hb hg hat; rw [← Ny333.out] at ho; have n0_ := Az_.mk (I81_.grown (by repeat (first | (with_reducible first | exact HI0.out | apply I81_.alloc | apply I81_.drewN | apply I81_.drew | apply I81_.set_1) | exact HI0.out)) hg (I81_.own_ne HI0.out HO329.out (by decide))); have n1_ := Az_.mk (Kd.R_over' (by (with_reducible repeat (first | apply Kd.R_alloc | apply Kd.R_drewN | apply Kd.R_drew)); exact HO323.out) (Kd.R_typed (by (with_reducible repeat (first | apply Kd.R_alloc | apply Kd.R_drewN | apply Kd.R_drew)); exact HO329.out)) (by decide) hg); have n2_ := Az_.mk (below_weaken (by repeat (first | (with_reducible first | exact HB.out | apply eA_ | apply pN_ | apply eD_ | refine eS_ ?_ (I81_.ge HI0.out)) | exact HB.out)) HL.out hb); have n3_ := Az_.mk (KeepBut.trans (by repeat (first | (with_reducible first | exact HK.out | apply KeepBut.set_ | apply kN_ | apply kD_ | apply kA_) | exact HK.out)) (KeepBut.of_grown hg g) (Kd.R_base2 HO329.out)); have n4_ := Az_.mk (ho); clear HI0; clear HO323; clear HB; clear HK; clear HO329; have HI0 := n0_; have HO323 := n1_; have HB := n2_; have HK := n3_; have HO335 := n4_; clear n0_ n1_ n2_ n3_ n4_; clear ho hb hg hat))
     go_ret
     exact ⟨_, by first | rfl | (simp [errW_none, errW_some] <;> rfl) | (simp [*, errW_none, errW_some] <;> rfl), by (with_reducible repeat (first | apply Kd.R_alloc | apply Kd.R_drewN | apply Kd.R_drew)); exact HO335.out, by repeat (first | (with_reducible first | exact HI0.out | apply I81_.alloc | apply I81_.drewN | apply I81_.drew | apply I81_.set_1) | exact HI0.out), by repeat (first | (with_reducible first | exact HB.out | apply eA_ | apply pN_ | apply eD_ | refine eS_ ?_ (I81_.ge HI0.out)) | exact HB.out), by repeat (first | (with_reducible first | exact HK.out | apply KeepBut.set_ | apply kN_ | apply kD_ | apply kA_) | exact HK.out)⟩
    ·rw [if_neg c9] at H
     exact absurd H (by simp)
   ·rw [if_neg c8] at H
    exact absurd H (by simp)
  ·rw [if_neg c7] at H
   have c7b0 : decide (0 < (t327.length : Int)) = false := decide_eq_false c7
   have c7b1 : decide (0 < t327.length) = false := decide_eq_false (by omega)
   clear c7
   simp only [Option.some.injEq, Prod.mk.injEq] at H
   obtain ⟨rfl, rfl⟩ := H
   go_enter Try.func52, Try.ntmps52
   go_wp2_with (first | ((with_reducible refine gate_callee (f := 62) rfl ?_); refine goesL_ (some 5) rfl rfl Try.func62 (by kernel_rfl) rfl #[.pointer (some ⟨g, 0, none⟩)] rfl (by (try simp only [List.map_toArray, List.map_cons, List.map_nil]); first | done | rfl | (simp only [List.length_drop, List.length_take]; rfl)) ?_; (with_reducible refine (spec_l20Panes.calls k g s0_0 s0_1 t321 t324 w0 _ ?side1 ?side2 A2.out).mono ?_); (case side1 => repeat (first | (with_reducible first | exact HI0.out | apply I81_.alloc | apply I81_.drewN | apply I81_.drew | apply I81_.set_1) | exact HI0.out)); (case side2 => repeat (first | (with_reducible first | exact HB.out | apply eA_ | apply pN_ | apply eD_ | refine eS_ ?_ (I81_.ge HI0.out)) | exact HB.out)); rintro e w17 ⟨v322, rfl, ho0, hi, hb, hk⟩; refine ⟨_, rfl, ?_⟩; have n0_ := Az_.mk (Kd.R_lower ho0 (keep_size (w := w) (g := g) (row := none) (by repeat (first | (with_reducible first | exact HK.out | apply KeepBut.set_ | apply kN_ | apply kD_ | apply kA_) | exact HK.out)))); have n1_ := Az_.mk (KeepBut.trans (by repeat (first | (with_reducible first | exact HK.out | apply KeepBut.set_ | apply kN_ | apply kD_ | apply kA_) | exact HK.out)) hk (.inl rfl)); have n2_ := Az_.mk (hb); have n3_ := Az_.mk (hi); clear HK; clear HB; clear HI0; have HO323 := n0_; have HK := n1_; have HB := n2_; have HI0 := n3_; clear n0_ n1_ n2_ n3_; (try clear hb); (try clear hb2); (try clear hk); (try clear hi); (try clear ho0)) | ((with_reducible refine gate_callee (f := 53) rfl ?_); refine goesL_ (some 7) rfl rfl Try.func53 (by kernel_rfl) rfl #[.pointer (some ⟨g, 0, none⟩), .int .i64 2] rfl (by (try simp only [List.map_toArray, List.map_cons, List.map_nil]); first | done | rfl | (simp only [List.length_drop, List.length_take]; rfl)) ?_; (with_reducible refine (spec_l20Rd_pick.calls k g s0_0 t324 2 t325 t326 w0 _ ?side1 ?side2 A3.out).mono ?_); (case side1 => repeat (first | (with_reducible first | exact HI0.out | apply I81_.alloc | apply I81_.drewN | apply I81_.drew | apply I81_.set_1) | exact HI0.out)); (case side2 => repeat (first | (with_reducible first | exact HB.out | apply eA_ | apply pN_ | apply eD_ | refine eS_ ?_ (I81_.ge HI0.out)) | exact HB.out)); rintro e w18 ⟨rfl, hi, hb, hk⟩; refine ⟨_, rfl, ?_⟩; have n0_ := Az_.mk (Kd.R_mono (Kd.R_keep (I81_.apart (show I81_ w0 _ g s0_0 t324 from by repeat (first | (with_reducible first | exact HI0.out | apply I81_.alloc | apply I81_.drewN | apply I81_.drew | apply I81_.set_1) | exact HI0.out)) (by (with_reducible repeat (first | apply Kd.R_alloc | apply Kd.R_drewN | apply Kd.R_drew)); exact HO323.out) (by decide)) hk (fun _ h => h.2)) (fun _ h => h.1)); have n1_ := Az_.mk (KeepBut.trans (by repeat (first | (with_reducible first | exact HK.out | apply KeepBut.set_ | apply kN_ | apply kD_ | apply kA_) | exact HK.out)) hk (.inl rfl)); have n2_ := Az_.mk (hb); have n3_ := Az_.mk (hi); clear HO323; clear HK; clear HB; clear HI0; have HO323 := n0_; have HK := n1_; have HB := n2_; have HI0 := n3_; clear n0_ n1_ n2_ n3_; (try clear hb); (try clear hb2); (try clear hk); (try clear hi); obtain ⟨Ao19, co19, eo19⟩ := Kd.R_slice HO323.out; subst eo19) | ((with_reducible refine gate_callee (f := 61) rfl ?_); refine goesL_ (some 9) rfl rfl Try.func61 (by kernel_rfl) rfl #[.slice Ao19 t321.length co19, .bool (t325 == 0)] rfl (by (try simp only [List.map_toArray, List.map_cons, List.map_nil]); first | done | rfl | (simp only [List.length_drop, List.length_take]; rfl)) ?_; (with_reducible refine (spec_TabOf.calls k _ _ t321 (t325 == 0) t327 _ ?side1 ?side2 A4.out).mono ?_); (case side1 => repeat (first | exact (Kd.R_reads' HO323.out).2.2 | (with_reducible refine Kd.C_alloc ?_ _) | (with_reducible refine Kd.C_drewN ?_ _) | (with_reducible refine Kd.C_drew ?_))); (case side2 => exact (Kd.R_reads' HO323.out).2.1); rintro e w20 ⟨v328, rfl, ho0, hb⟩; refine ⟨_, rfl, ?_⟩; have n0_ := Az_.mk (Kd.R_below (by (with_reducible repeat (first | apply Kd.R_alloc | apply Kd.R_drewN | apply Kd.R_drew)); exact HO323.out) hb); have n1_ := Az_.mk (Kd.R_lower ho0 (keep_size (w := w) (g := g) (row := none) (by repeat (first | (with_reducible first | exact HK.out | apply KeepBut.set_ | apply kN_ | apply kD_ | apply kA_) | exact HK.out)))); have n2_ := Az_.mk (I81_.below (by repeat (first | (with_reducible first | exact HI0.out | apply I81_.alloc | apply I81_.drewN | apply I81_.drew | apply I81_.set_1) | exact HI0.out)) hb); have n3_ := Az_.mk (KeepBut.trans (by repeat (first | (with_reducible first | exact HK.out | apply KeepBut.set_ | apply kN_ | apply kD_ | apply kA_) | exact HK.out)) (KeepBut.of_below hb g none) (.inl rfl)); have n4_ := Az_.mk (below_step (by repeat (first | (with_reducible first | exact HB.out | apply eA_ | apply pN_ | apply eD_ | refine eS_ ?_ (I81_.ge HI0.out)) | exact HB.out)) hb); clear HO323; clear HI0; clear HK; clear HB; have HO323 := n0_; have HO329 := n1_; have HI0 := n2_; have HK := n3_; have HB := n4_; clear n0_ n1_ n2_ n3_ n4_; (try clear hb); (try clear hb2); (try clear hk); (try clear hi); (try clear ho0)) | ((with_reducible refine gate_callee (f := 53) rfl ?_); refine goesL_ (some 11) rfl rfl Try.func53 (by kernel_rfl) rfl #[.pointer (some ⟨g, 0, none⟩), .int .i64 8] rfl (by (try simp only [List.map_toArray, List.map_cons, List.map_nil]); first | done | rfl | (simp only [List.length_drop, List.length_take]; rfl)) ?_; (with_reducible refine (spec_l20Rd_pick.calls k g s0_0 t326 8 t330 t331 w0 _ ?side1 ?side2 A5.out).mono ?_); (case side1 => repeat (first | (with_reducible first | exact HI0.out | apply I81_.alloc | apply I81_.drewN | apply I81_.drew | apply I81_.set_1) | exact HI0.out)); (case side2 => repeat (first | (with_reducible first | exact HB.out | apply eA_ | apply pN_ | apply eD_ | refine eS_ ?_ (I81_.ge HI0.out)) | exact HB.out)); rintro e w21 ⟨rfl, hi, hb, hk⟩; refine ⟨_, rfl, ?_⟩; have n0_ := Az_.mk (Kd.R_mono (Kd.R_keep (I81_.apart (show I81_ w0 _ g s0_0 t326 from by repeat (first | (with_reducible first | exact HI0.out | apply I81_.alloc | apply I81_.drewN | apply I81_.drew | apply I81_.set_1) | exact HI0.out)) (by (with_reducible repeat (first | apply Kd.R_alloc | apply Kd.R_drewN | apply Kd.R_drew)); exact HO323.out) (by decide)) hk (fun _ h => h.2)) (fun _ h => h.1)); have n1_ := Az_.mk (Kd.R_mono (Kd.R_keep (I81_.apart (show I81_ w0 _ g s0_0 t326 from by repeat (first | (with_reducible first | exact HI0.out | apply I81_.alloc | apply I81_.drewN | apply I81_.drew | apply I81_.set_1) | exact HI0.out)) (by (with_reducible repeat (first | apply Kd.R_alloc | apply Kd.R_drewN | apply Kd.R_drew)); exact HO329.out) (by decide)) hk (fun _ h => h.2)) (fun _ h => h.1)); have n2_ := Az_.mk (KeepBut.trans (by repeat (first | (with_reducible first | exact HK.out | apply KeepBut.set_ | apply kN_ | apply kD_ | apply kA_) | exact HK.out)) hk (.inl rfl)); have n3_ := Az_.mk (hb); have n4_ := Az_.mk (hi); clear HO323; clear HO329; clear HK; clear HB; clear HI0; have HO323 := n0_; have HO329 := n1_; have HK := n2_; have HB := n3_; have HI0 := n4_; clear n0_ n1_ n2_ n3_ n4_; (try clear hb); (try clear hb2); (try clear hk); (try clear hi); obtain ⟨Ao22, co22, eo22⟩ := Kd.R_slice HO329.out; subst eo22))
   go_ret
   exact ⟨_, by first | rfl | (simp [errW_none, errW_some] <;> rfl) | (simp [*, errW_none, errW_some] <;> rfl), by (with_reducible repeat (first | apply Kd.R_alloc | apply Kd.R_drewN | apply Kd.R_drew)); exact HO329.out, by repeat (first | (with_reducible first | exact HI0.out | apply I81_.alloc | apply I81_.drewN | apply I81_.drew | apply I81_.set_1) | exact HI0.out), by repeat (first | (with_reducible first | exact HB.out | apply eA_ | apply pN_ | apply eD_ | refine eS_ ?_ (I81_.ge HI0.out)) | exact HB.out), by repeat (first | (with_reducible first | exact HK.out | apply KeepBut.set_ | apply kN_ | apply kD_ | apply kA_) | exact HK.out)⟩
 ·rw [if_neg c6] at H
  have c6b0 : (t330 == 0) = false := beq_eq_false_iff_ne.mpr c6
  have c6b1 : (t330 != 0) = true := bne_iff_ne.mpr c6
  simp only [Option.some.injEq, Prod.mk.injEq] at H
  obtain ⟨rfl, rfl⟩ := H
  go_enter Try.func52, Try.ntmps52
  go_wp2_with (first | ((with_reducible refine gate_callee (f := 62) rfl ?_); refine goesL_ (some 5) rfl rfl Try.func62 (by kernel_rfl) rfl #[.pointer (some ⟨g, 0, none⟩)] rfl (by (try simp only [List.map_toArray, List.map_cons, List.map_nil]); first | done | rfl | (simp only [List.length_drop, List.length_take]; rfl)) ?_; (with_reducible refine (spec_l20Panes.calls k g s0_0 s0_1 t321 t324 w0 _ ?side1 ?side2 A2.out).mono ?_); (case side1 => repeat (first | (with_reducible first | exact HI0.out | apply I81_.alloc | apply I81_.drewN | apply I81_.drew | apply I81_.set_1) | exact HI0.out)); (case side2 => repeat (first | (with_reducible first | exact HB.out | apply eA_ | apply pN_ | apply eD_ | refine eS_ ?_ (I81_.ge HI0.out)) | exact HB.out)); rintro e w23 ⟨v322, rfl, ho0, hi, hb, hk⟩; refine ⟨_, rfl, ?_⟩; have n0_ := Az_.mk (Kd.R_lower ho0 (keep_size (w := w) (g := g) (row := none) (by repeat (first | (with_reducible first | exact HK.out | apply KeepBut.set_ | apply kN_ | apply kD_ | apply kA_) | exact HK.out)))); have n1_ := Az_.mk (KeepBut.trans (by repeat (first | (with_reducible first | exact HK.out | apply KeepBut.set_ | apply kN_ | apply kD_ | apply kA_) | exact HK.out)) hk (.inl rfl)); have n2_ := Az_.mk (hb); have n3_ := Az_.mk (hi); clear HK; clear HB; clear HI0; have HO323 := n0_; have HK := n1_; have HB := n2_; have HI0 := n3_; clear n0_ n1_ n2_ n3_; (try clear hb); (try clear hb2); (try clear hk); (try clear hi); (try clear ho0)) | ((with_reducible refine gate_callee (f := 53) rfl ?_); refine goesL_ (some 7) rfl rfl Try.func53 (by kernel_rfl) rfl #[.pointer (some ⟨g, 0, none⟩), .int .i64 2] rfl (by (try simp only [List.map_toArray, List.map_cons, List.map_nil]); first | done | rfl | (simp only [List.length_drop, List.length_take]; rfl)) ?_; (with_reducible refine (spec_l20Rd_pick.calls k g s0_0 t324 2 t325 t326 w0 _ ?side1 ?side2 A3.out).mono ?_); (case side1 => repeat (first | (with_reducible first | exact HI0.out | apply I81_.alloc | apply I81_.drewN | apply I81_.drew | apply I81_.set_1) | exact HI0.out)); (case side2 => repeat (first | (with_reducible first | exact HB.out | apply eA_ | apply pN_ | apply eD_ | refine eS_ ?_ (I81_.ge HI0.out)) | exact HB.out)); rintro e w24 ⟨rfl, hi, hb, hk⟩; refine ⟨_, rfl, ?_⟩; have n0_ := Az_.mk (Kd.R_mono (Kd.R_keep (I81_.apart (show I81_ w0 _ g s0_0 t324 from by repeat (first | (with_reducible first | exact HI0.out | apply I81_.alloc | apply I81_.drewN | apply I81_.drew | apply I81_.set_1) | exact HI0.out)) (by (with_reducible repeat (first | apply Kd.R_alloc | apply Kd.R_drewN | apply Kd.R_drew)); exact HO323.out) (by decide)) hk (fun _ h => h.2)) (fun _ h => h.1)); have n1_ := Az_.mk (KeepBut.trans (by repeat (first | (with_reducible first | exact HK.out | apply KeepBut.set_ | apply kN_ | apply kD_ | apply kA_) | exact HK.out)) hk (.inl rfl)); have n2_ := Az_.mk (hb); have n3_ := Az_.mk (hi); clear HO323; clear HK; clear HB; clear HI0; have HO323 := n0_; have HK := n1_; have HB := n2_; have HI0 := n3_; clear n0_ n1_ n2_ n3_; (try clear hb); (try clear hb2); (try clear hk); (try clear hi); obtain ⟨Ao25, co25, eo25⟩ := Kd.R_slice HO323.out; subst eo25) | ((with_reducible refine gate_callee (f := 61) rfl ?_); refine goesL_ (some 9) rfl rfl Try.func61 (by kernel_rfl) rfl #[.slice Ao25 t321.length co25, .bool (t325 == 0)] rfl (by (try simp only [List.map_toArray, List.map_cons, List.map_nil]); first | done | rfl | (simp only [List.length_drop, List.length_take]; rfl)) ?_; (with_reducible refine (spec_TabOf.calls k _ _ t321 (t325 == 0) t327 _ ?side1 ?side2 A4.out).mono ?_); (case side1 => repeat (first | exact (Kd.R_reads' HO323.out).2.2 | (with_reducible refine Kd.C_alloc ?_ _) | (with_reducible refine Kd.C_drewN ?_ _) | (with_reducible refine Kd.C_drew ?_))); (case side2 => exact (Kd.R_reads' HO323.out).2.1); rintro e w26 ⟨v328, rfl, ho0, hb⟩; refine ⟨_, rfl, ?_⟩; have n0_ := Az_.mk (Kd.R_below (by (with_reducible repeat (first | apply Kd.R_alloc | apply Kd.R_drewN | apply Kd.R_drew)); exact HO323.out) hb); have n1_ := Az_.mk (Kd.R_lower ho0 (keep_size (w := w) (g := g) (row := none) (by repeat (first | (with_reducible first | exact HK.out | apply KeepBut.set_ | apply kN_ | apply kD_ | apply kA_) | exact HK.out)))); have n2_ := Az_.mk (I81_.below (by repeat (first | (with_reducible first | exact HI0.out | apply I81_.alloc | apply I81_.drewN | apply I81_.drew | apply I81_.set_1) | exact HI0.out)) hb); have n3_ := Az_.mk (KeepBut.trans (by repeat (first | (with_reducible first | exact HK.out | apply KeepBut.set_ | apply kN_ | apply kD_ | apply kA_) | exact HK.out)) (KeepBut.of_below hb g none) (.inl rfl)); have n4_ := Az_.mk (below_step (by repeat (first | (with_reducible first | exact HB.out | apply eA_ | apply pN_ | apply eD_ | refine eS_ ?_ (I81_.ge HI0.out)) | exact HB.out)) hb); clear HO323; clear HI0; clear HK; clear HB; have HO323 := n0_; have HO329 := n1_; have HI0 := n2_; have HK := n3_; have HB := n4_; clear n0_ n1_ n2_ n3_ n4_; (try clear hb); (try clear hb2); (try clear hk); (try clear hi); (try clear ho0)) | ((with_reducible refine gate_callee (f := 53) rfl ?_); refine goesL_ (some 11) rfl rfl Try.func53 (by kernel_rfl) rfl #[.pointer (some ⟨g, 0, none⟩), .int .i64 8] rfl (by (try simp only [List.map_toArray, List.map_cons, List.map_nil]); first | done | rfl | (simp only [List.length_drop, List.length_take]; rfl)) ?_; (with_reducible refine (spec_l20Rd_pick.calls k g s0_0 t326 8 t330 t331 w0 _ ?side1 ?side2 A5.out).mono ?_); (case side1 => repeat (first | (with_reducible first | exact HI0.out | apply I81_.alloc | apply I81_.drewN | apply I81_.drew | apply I81_.set_1) | exact HI0.out)); (case side2 => repeat (first | (with_reducible first | exact HB.out | apply eA_ | apply pN_ | apply eD_ | refine eS_ ?_ (I81_.ge HI0.out)) | exact HB.out)); rintro e w27 ⟨rfl, hi, hb, hk⟩; refine ⟨_, rfl, ?_⟩; have n0_ := Az_.mk (Kd.R_mono (Kd.R_keep (I81_.apart (show I81_ w0 _ g s0_0 t326 from by repeat (first | (with_reducible first | exact HI0.out | apply I81_.alloc | apply I81_.drewN | apply I81_.drew | apply I81_.set_1) | exact HI0.out)) (by (with_reducible repeat (first | apply Kd.R_alloc | apply Kd.R_drewN | apply Kd.R_drew)); exact HO323.out) (by decide)) hk (fun _ h => h.2)) (fun _ h => h.1)); have n1_ := Az_.mk (Kd.R_mono (Kd.R_keep (I81_.apart (show I81_ w0 _ g s0_0 t326 from by repeat (first | (with_reducible first | exact HI0.out | apply I81_.alloc | apply I81_.drewN | apply I81_.drew | apply I81_.set_1) | exact HI0.out)) (by (with_reducible repeat (first | apply Kd.R_alloc | apply Kd.R_drewN | apply Kd.R_drew)); exact HO329.out) (by decide)) hk (fun _ h => h.2)) (fun _ h => h.1)); have n2_ := Az_.mk (KeepBut.trans (by repeat (first | (with_reducible first | exact HK.out | apply KeepBut.set_ | apply kN_ | apply kD_ | apply kA_) | exact HK.out)) hk (.inl rfl)); have n3_ := Az_.mk (hb); have n4_ := Az_.mk (hi); clear HO323; clear HO329; clear HK; clear HB; clear HI0; have HO323 := n0_; have HO329 := n1_; have HK := n2_; have HB := n3_; have HI0 := n4_; clear n0_ n1_ n2_ n3_ n4_; (try clear hb); (try clear hb2); (try clear hk); (try clear hi)))
  go_ret
  exact ⟨_, by first | rfl | (simp [errW_none, errW_some] <;> rfl) | (simp [*, errW_none, errW_some] <;> rfl), by (with_reducible repeat (first | apply Kd.R_alloc | apply Kd.R_drewN | apply Kd.R_drew)); exact HO329.out, by repeat (first | (with_reducible first | exact HI0.out | apply I81_.alloc | apply I81_.drewN | apply I81_.drew | apply I81_.set_1) | exact HI0.out), by repeat (first | (with_reducible first | exact HB.out | apply eA_ | apply pN_ | apply eD_ | refine eS_ ?_ (I81_.ge HI0.out)) | exact HB.out), by repeat (first | (with_reducible first | exact HK.out | apply KeepBut.set_ | apply kN_ | apply kD_ | apply kA_) | exact HK.out)⟩

/-! ### spec_DrawTabFind: function 57 -/
def spec_DrawTabFind.f (k : Nat) (l0 : List Int) : Option ((List (S67)) × Int × Int × Int) := (spec_l20Open.f l0).bind fun bt337 => ((spec_l20Rows.f k bt337.1 bt337.2).bind fun bt340 => ((spec_l20Rd_pick.f k bt337.1 bt340.2 3).bind fun bt344 => ((some (([(⟨0, 5⟩ : S26), (⟨5, 10⟩ : S26), (⟨3, 12⟩ : S26)] : List (S26)) : List (S26))).bind fun y346 => ((spec_l20Rd_pick.f k bt337.1 bt344.2 3).bind fun bt349 => (if 0 ≤ bt349.1 then (if bt349.1 < (y346.length : Int) then (some (bt340.1, bt344.1, (rd_T26 y346 bt349.1).f0, (rd_T26 y346 bt349.1).f1)) else (none)) else (none))))))
theorem spec_DrawTabFind.mono : ∀ a0 k, LeO (spec_DrawTabFind.f k a0) (spec_DrawTabFind.f (k + 1) a0) := by
 intro a0 k
 unfold spec_DrawTabFind.f
 repeat' first
   | (with_reducible exact spec_l20Rd_pick.mono _ _ _ _)
   | (with_reducible exact spec_l20Rows.mono _ _ _)
   | (with_reducible exact LeO.refl _)
   | (with_reducible exact LeO.none _)
   | (with_reducible refine LeO.ite ?_ ?_)
   | (with_reducible refine LeO.bind ?_ (fun _ => ?_))
   | exact spec_l20Rd_pick.mono _ _ _ _
   | exact spec_l20Rows.mono _ _ _
   | exact LeO.none _
   | refine LeO.ite ?_ ?_
   | refine LeO.bind ?_ (fun _ => ?_)
def spec_DrawTabFind.T2 : Bool × List (List Nat × List Nat) := (true, [([], []), ([0], [0]), ([], []), ([2, 1], [2]), ([], []), ([], []), ([], []), ([4, 5, 6], [4, 5, 6]), ([], []), ([8, 3], [8]), ([7, 9], [7, 9]), ([10], [10]), ([1, 9, 0, 1], [1]), ([3, 12, 0, 1, 2, 3, 12], [3]), ([11, 13, 0, 1, 2, 3, 4, 5, 6, 7, 8, 9, 10, 11, 12, 13], [11])])
def spec_DrawTabFind.B2 : List Nat := [0, 1, 0, 7, 0, 0, 0, 112, 0, 271, 1023, 2047, 783, 4879, 16383]
theorem spec_DrawTabFind.tab2 : rtab .any (opsOf Try.f57 2) = spec_DrawTabFind.T2 := by kernel_rfl
theorem spec_DrawTabFind.bits2 : waitsOk spec_DrawTabFind.T2.2 spec_DrawTabFind.B2 = true := by kernel_rfl
set_option maxHeartbeats 8000000 in
set_option maxRecDepth 100000 in
theorem spec_DrawTabFind.calls (k : Nat) (A0 : Option Addr) (c0 : Nat) (l0 : List Int) (r1 : List (S67)) (r2 : Int) (r3 : Int) (r4 : Int) (w : World) (hr0 : Kd.C (Kd.int .u8) w A0 l0.length l0) (hc0 : l0.length ≤ c0) (h : spec_DrawTabFind.f k l0 = some (r1, r2, r3, r4)) :
  Calls Try.prog 57 #[.slice A0 l0.length c0] w fun e w' => ∃ v0_ : Value, e = .returned (.tuple #[v0_, .int .i64 r2, .agg #[.int .i64 r3, .int .i64 r4]]) ∧ Kd.R k67 67 w' w.heap.size (fun _ => True) v0_ r1 ∧ Below w.heap.size w w' := by
 have hu26 := Try.underlying26
 have HR0 := Az_.mk hr0
 have HC0 := Az_.mk hc0
 clear hr0 hc0
 have HB := Az_.mk (Below.refl w.heap.size w)
 have H : ((spec_l20Open.f l0).bind fun bt337 => ((spec_l20Rows.f k bt337.1 bt337.2).bind fun bt340 => ((spec_l20Rd_pick.f k bt337.1 bt340.2 3).bind fun bt344 => ((some (([(⟨0, 5⟩ : S26), (⟨5, 10⟩ : S26), (⟨3, 12⟩ : S26)] : List (S26)) : List (S26))).bind fun y346 => ((spec_l20Rd_pick.f k bt337.1 bt344.2 3).bind fun bt349 => (if 0 ≤ bt349.1 then (if bt349.1 < (y346.length : Int) then (some (bt340.1, bt344.1, (rd_T26 y346 bt349.1).f0, (rd_T26 y346 bt349.1).f1)) else (none)) else (none))))))) = some (r1, r2, r3, r4) := h
 clear h
 replace H := Option.bind_eq_some_iff.mp H
 obtain ⟨⟨t337, t338⟩, A20, H⟩ := H
 replace H : ((spec_l20Rows.f k t337 t338).bind fun bt340 => ((spec_l20Rd_pick.f k t337 bt340.2 3).bind fun bt344 => ((some (([(⟨0, 5⟩ : S26), (⟨5, 10⟩ : S26), (⟨3, 12⟩ : S26)] : List (S26)) : List (S26))).bind fun y346 => ((spec_l20Rd_pick.f k t337 bt344.2 3).bind fun bt349 => (if 0 ≤ bt349.1 then (if bt349.1 < (y346.length : Int) then (some (bt340.1, bt344.1, (rd_T26 y346 bt349.1).f0, (rd_T26 y346 bt349.1).f1)) else (none)) else (none)))))) = some (r1, r2, r3, r4) := H
 have A2 := Az_.mk A20
 clear A20
 replace H := Option.bind_eq_some_iff.mp H
 obtain ⟨⟨t340, t343⟩, A30, H⟩ := H
 replace H : ((spec_l20Rd_pick.f k t337 t343 3).bind fun bt344 => ((some (([(⟨0, 5⟩ : S26), (⟨5, 10⟩ : S26), (⟨3, 12⟩ : S26)] : List (S26)) : List (S26))).bind fun y346 => ((spec_l20Rd_pick.f k t337 bt344.2 3).bind fun bt349 => (if 0 ≤ bt349.1 then (if bt349.1 < (y346.length : Int) then (some (t340, bt344.1, (rd_T26 y346 bt349.1).f0, (rd_T26 y346 bt349.1).f1)) else (none)) else (none))))) = some (r1, r2, r3, r4) := H
 have A3 := Az_.mk A30
 clear A30
 replace H := Option.bind_eq_some_iff.mp H
 obtain ⟨⟨t344, t345⟩, A40, H⟩ := H
 replace H : ((some (([(⟨0, 5⟩ : S26), (⟨5, 10⟩ : S26), (⟨3, 12⟩ : S26)] : List (S26)) : List (S26))).bind fun y346 => ((spec_l20Rd_pick.f k t337 t345 3).bind fun bt349 => (if 0 ≤ bt349.1 then (if bt349.1 < (y346.length : Int) then (some (t340, t344, (rd_T26 y346 bt349.1).f0, (rd_T26 y346 bt349.1).f1)) else (none)) else (none)))) = some (r1, r2, r3, r4) := H
 have A4 := Az_.mk A40
 clear A40
 obtain ⟨y346, hy346⟩ : ∃ y_ : List (S26), y_ = (([(⟨0, 5⟩ : S26), (⟨5, 10⟩ : S26), (⟨3, 12⟩ : S26)] : List (S26))) := ⟨_, rfl⟩
 replace H : ((spec_l20Rd_pick.f k t337 t345 3).bind fun bt349 => (if 0 ≤ bt349.1 then (if bt349.1 < (y346.length : Int) then (some (t340, t344, (rd_T26 y346 bt349.1).f0, (rd_T26 y346 bt349.1).f1)) else (none)) else (none))) = some (r1, r2, r3, r4) := by first | (rw [hy346]; with_reducible exact H) | (have H2_ := (Option.bind_some _ _).symm.trans H; rw [hy346]; with_reducible exact H2_) | (have H2_ := (Option.bind_some _ _).symm.trans H; with_reducible exact H2_) | with_reducible exact H | (rw [hy346]; exact H) | exact H
 have Ny346 := Az_.mk hy346
 clear hy346
 replace H := Option.bind_eq_some_iff.mp H
 obtain ⟨⟨t349, t350⟩, A50, H⟩ := H
 replace H : (if 0 ≤ t349 then (if t349 < (y346.length : Int) then (some (t340, t344, (rd_T26 y346 t349).f0, (rd_T26 y346 t349).f1)) else (none)) else (none)) = some (r1, r2, r3, r4) := H
 have A5 := Az_.mk A50
 clear A50
 by_cases c6 : 0 ≤ t349
 ·rw [if_pos c6] at H
  have c6b0 : decide (0 ≤ t349) = true := decide_eq_true c6
  clear c6
  by_cases c7 : t349 < (y346.length : Int)
  ·rw [if_pos c7] at H
   have c7b0 : decide (t349 < (y346.length : Int)) = true := decide_eq_true c7
   clear c7
   simp only [Option.some.injEq, Prod.mk.injEq] at H
   obtain ⟨rfl, rfl, rfl, rfl⟩ := H
   go_enter Try.func57, Try.ntmps57
   try go_wp2_with (first | ((with_reducible refine gate_dst (N := 4) rfl ?_); refine box_event ?hg (N := 4) ?hd (cs := #[.int .i64 0, .int .i64 0]) (t := 26) ?hr ?_; (case hd => rfl); (case hg => rfl); (case hr => first | (go_simp; done) | (go_simp; rfl)); intro gb336 hg w8 hbox hb; have n0_ := Az_.mk (below_step (by repeat (first | (with_reducible first | exact HB.out | apply eA_ | apply pN_ | apply eD_) | exact HB.out)) hb); have n1_ := Az_.mk (hbox); have n2_ := Az_.mk ((by rw [hg]; exact (below_size (by repeat (first | (with_reducible first | exact HB.out | apply eA_ | apply pN_ | apply eD_) | exact HB.out))) : w.heap.size ≤ gb336)); have n3_ := Az_.mk ((by rw [hg]; exact (below_size (by repeat (first | (with_reducible first | exact HB.out | apply eA_ | apply pN_ | apply eD_) | exact HB.out))) : w.heap.size ≤ gb336)); clear HB; have HB := n0_; have BK336 := n1_; have GW336 := n2_; have GE336 := n3_; clear n0_ n1_ n2_ n3_; clear hb hbox hg) | ((with_reducible refine gate_callee (f := 51) rfl ?_); refine goesL_ (some 7) rfl rfl Try.func51 (by kernel_rfl) rfl #[.slice A0 l0.length c0] rfl (by (try simp only [List.map_toArray, List.map_cons, List.map_nil]); first | done | rfl | (simp only [List.length_drop, List.length_take]; rfl)) ?_; (with_reducible refine (spec_l20Open.calls _ _ l0 t337 t338 w _ ?side1 ?side2 ?side3 A2.out).mono ?_); (case side1 => repeat (first | (with_reducible first | exact HB.out | apply eA_ | apply pN_ | apply eD_ | refine eS_ ?_ GE336.out) | exact HB.out)); (case side2 => exact HR0.out); (case side3 => exact HC0.out); rintro e w9 ⟨g339, rfl, hi, hb, hb2⟩; refine ⟨_, rfl, ?_⟩; have n0_ := Az_.mk (bB_ (g := gb336) (o := .cells #[.int .i64 0, .int .i64 0] 26 (0, 0)) (by (with_reducible repeat (first | refine bN_ ?_ _ | refine bD_ ?_ | refine bA_ ?_ _)); exact BK336.out) hb2); have n1_ := Az_.mk (hb); have n2_ := Az_.mk (hi); have n3_ := Az_.mk (I81_.ne_blk hi (bB_ (g := gb336) (o := .cells #[.int .i64 0, .int .i64 0] 26 (0, 0)) (by (with_reducible repeat (first | refine bN_ ?_ _ | refine bD_ ?_ | refine bA_ ?_ _)); exact BK336.out) hb2) (by decide)); have n4_ := Az_.mk (Ne.symm (I81_.ne_blk hi (bB_ (g := gb336) (o := .cells #[.int .i64 0, .int .i64 0] 26 (0, 0)) (by (with_reducible repeat (first | refine bN_ ?_ _ | refine bD_ ?_ | refine bA_ ?_ _)); exact BK336.out) hb2) (by decide))); clear BK336; clear HB; have BK336 := n0_; have HB := n1_; have HI339 := n2_; have NB339_336 := n3_; have NB336_339 := n4_; clear n0_ n1_ n2_ n3_ n4_; (try clear hb); (try clear hb2); (try clear hk); (try clear hi)))
   have pi351 : (0 ≤ (t349 : Int)) = True := eq_true (of_decide_eq_true (by first | (with_reducible assumption) | assumption))
   have qi351 : (t349 < (y346.length : Int)) = True := eq_true (of_decide_eq_true (by first | (with_reducible assumption) | assumption))
   have n0_ := Az_.mk (bD_ BK336.out)
   have n1_ := Az_.mk (I81_.drew HI339.out)
   have n2_ := Az_.mk (eD_ HB.out)
   clear BK336
   clear HI339
   clear HB
   have BK336 := n0_
   have HI339 := n1_
   have HB := n2_
   clear n0_ n1_ n2_
   refine start_ (n := 15) (S := fun w' => True) (ds := []) #[false, false, false, false, false, false, false, false, false, false, false, false, false, false, false] (by kernel_rfl) rfl rfl trivial (fun hHeld => ?_); refine with_tabW spec_DrawTabFind.tab2 spec_DrawTabFind.bits2 (fun HT_ HW_ => ?_)
   generalize w9.drew = w10 at BK336 HI339 HB hHeld ⊢
   refine pure_ (i := 0) (N := some 8) (v := ?_) (a' := ?_) #[true, false, false, false, false, false, false, false, false, false, false, false, false, false, false] rfl rfl (any_of HT_.out (by kernel_rfl)) (fun _ _ _ h => h) (Or.inl ⟨by rfl, ?_⟩) ?_ ?_
   rotate_left
   ·intro w'
    go_simp
    with_reducible rfl
   rotate_left
   ·simp only [Act.put, List.setIfInBounds_toArray, List.set_cons_zero, List.set_cons_succ, i64_w, i32_w]
    rfl
   refine pure_ (i := 2) (N := some 10) (v := ?_) (a' := ?_) #[true, false, true, false, false, false, false, false, false, false, false, false, false, false, false] rfl rfl (any_of HT_.out (by kernel_rfl)) (fun _ _ _ h => h) (Or.inl ⟨by rfl, ?_⟩) ?_ ?_
   rotate_left
   ·intro w'
    go_simp
    with_reducible rfl
   rotate_left
   ·simp only [Act.put, List.setIfInBounds_toArray, List.set_cons_zero, List.set_cons_succ, i64_w, i32_w]
    rfl
   refine pure_ (i := 8) (N := some 16) (v := ?_) (a' := ?_) #[true, false, true, false, false, false, false, false, true, false, false, false, false, false, false] rfl rfl (any_of HT_.out (by kernel_rfl)) (fun _ _ _ h => h) (Or.inl ⟨by rfl, ?_⟩) ?_ ?_
   rotate_left
   ·intro w'
    go_simp
    with_reducible rfl
   rotate_left
   ·simp only [Act.put, List.setIfInBounds_toArray, List.set_cons_zero, List.set_cons_succ, i64_w, i32_w]
    rfl
   refine inv_at [1, 3, 4, 5, 6, 7, 9, 10, 11, 12, 13, 14] (fun a0_ b a w' => ∃ (v341 : Value) (v347 : Value) (adz_v347 : Addr) (m10_ : Value) (m12_ : Value), a = putSel a0_ b [(1, 9, v341), (3, 11, .int .i64 t344), (4, 12, .agg #[.int .i64 0, .int .i64 5]), (5, 13, .agg #[.int .i64 5, .int .i64 10]), (6, 14, .agg #[.int .i64 3, .int .i64 12]), (7, 15, v347), (9, 17, .int .i64 t349), (10, 18, m10_), (11, 19, .agg #[.int .i64 ((rd_T26 y346 t349).f0), .int .i64 ((rd_T26 y346 t349).f1)]), (12, 2, m12_), (13, 3, .int .i64 t344)] ∧ (b 14 = false → w'.heap[gb336]? = some (.cells #[.int .i64 0, .int .i64 0] 26 (0, 0))) ∧ (b 1 = false → I81_ w w' g339 t337 t338) ∧ (Below w.heap.size w w') ∧ (b 1 = true → Kd.R k67 67 w' w.heap.size (fun _ => True) v341 t340) ∧ (b 1 = true → b 3 = false → I81_ w w' g339 t337 t343) ∧ (b 3 = true → b 9 = false → I81_ w w' g339 t337 t345) ∧ (b 7 = true → Kd.R k26 26 w' w.heap.size (fun k_ => k_ ≠ gb336) v347 y346) ∧ (b 7 = true → ∃ c_, (v347 : Value) = .slice (some adz_v347) y346.length c_) ∧ (b 9 = true → I81_ w w' g339 t337 t350) ∧ (b 14 = true → w'.heap[gb336]? = some (.cells #[.int .i64 ((rd_T26 y346 t349).f0), .int .i64 ((rd_T26 y346 t349).f1)] 26 (0, 0))) ∧ (b 10 = true → (m10_ : Value) = .pointer (some (adz_v347.add ((t349).toNat * 2)))) ∧ (b 12 = true → (m12_ : Value) = v341)) HT_.out HW_.out (by kernel_rfl) (by kernel_rfl) ?_ ?_ ?_
   ·exact ⟨.bool false, .bool false, ⟨0, 0, none⟩, .bool false, .bool false, by simp only [putSel, Bool.false_eq_true, if_false], fun _ => BK336.out, fun _ => HI339.out, HB.out, fun h_ => absurd h_ (by decide), fun h_ => absurd h_ (by decide), fun h_ => absurd h_ (by decide), fun h_ => absurd h_ (by decide), fun h_ => absurd h_ (by decide), fun h_ => absurd h_ (by decide), fun h_ => absurd h_ (by decide), fun h_ => absurd h_ (by decide), fun h_ => absurd h_ (by decide)⟩
   ·skip
    clear BK336 HB HI339
    refine steps_cons ?_ ?_
    ·rintro b a w' ⟨v341, v347, adz_v347, m10_, m12_, ha, Q_BK336, Q_HI339, Q_HB, Q_HO342, Q_HI339_e1, Q_HI339_e3, Q_HO348, Q_HA_HO348, Q_HI339_e9, Q_BK336_e14, Q_X10_, Q_X12_⟩ hb_ hon hoff
     refine ⟨_, rfl, fun K hK => ?_⟩
     have e8 : a.tmps[8]? = some (.pointer (some ⟨g339, 0, none⟩)) := by rw [ha]; exact (putSel_off rfl).trans rfl
     replace ha := Az_.mk ha
     have BK336 := Az_.mk (Q_BK336 (hoff 14 (by kernel_rfl)))
     have HI339 := Az_.mk (Q_HI339 hb_)
     have HB := Az_.mk Q_HB
     refine goes_ Try.func52 (by kernel_rfl) rfl #[.pointer (some ⟨g339, 0, none⟩)] (by rfl) rfl rfl (by first | (simp only [List.map_toArray, List.map_cons, List.map_nil, Act.eval, Array.getD_eq_getD_getElem?, Option.getD_some, e8]; done) | (simp only [List.map_toArray, List.map_cons, List.map_nil, Act.eval, Array.getD_eq_getD_getElem?, Option.getD_some, e8]; rfl)) ?_
     with_reducible refine (spec_l20Rows.calls k g339 t337 t338 t340 t343 w _ ?side1 ?side2 A3.out).mono ?_
     (case side1 => repeat (first | (with_reducible first | exact HI339.out | apply I81_.alloc | apply I81_.drewN | apply I81_.drew | apply I81_.set_1 | refine I81_.far ?_ NB339_336.out _) | exact HI339.out))
     (case side2 => repeat (first | (with_reducible first | exact HB.out | apply eA_ | apply pN_ | apply eD_ | refine eS_ ?_ (I81_.ge HI339.out) | refine eS_ ?_ GE336.out) | exact HB.out))
     rintro e w11 ⟨v341, rfl, ho0, hi, hb, hk⟩
     refine ⟨_, rfl, ?_⟩
     have n0_ := Az_.mk (KeepBut.blk hk (g' := gb336) (o := .cells #[.int .i64 0, .int .i64 0] 26 (0, 0)) (by (with_reducible repeat (first | refine bN_ ?_ _ | refine bD_ ?_ | refine bA_ ?_ _)); exact BK336.out) NB336_339.out (by simp))
     have n1_ := Az_.mk (Kd.R_lower ho0 (below_size (by repeat (first | (with_reducible first | exact HB.out | apply eA_ | apply pN_ | apply eD_ | refine eS_ ?_ (I81_.ge HI339.out) | refine eS_ ?_ GE336.out) | exact HB.out))))
     have n2_ := Az_.mk (hb)
     have n3_ := Az_.mk (hi)
     have z_HO348 := fun (h0_ : b 7 = true) => (show Kd.R k26 26 w11 w.heap.size (fun k_ => k_ ≠ gb336) v347 y346 from by first | exact (Kd.R_mono (Kd.R_keep (I81_.apart (show I81_ w _ g339 t337 t338 from by repeat (first | (with_reducible first | exact HI339.out | apply I81_.alloc | apply I81_.drewN | apply I81_.drew | apply I81_.set_1 | refine I81_.far ?_ NB339_336.out _) | exact HI339.out)) (by (with_reducible repeat (first | apply Kd.R_alloc | apply Kd.R_drewN | apply Kd.R_drew)); exact (Q_HO348 h0_)) (by decide)) hk (fun _ h => h.2)) (fun _ h => h.1)) | exact Kd.R_mono (Kd.R_mono (Kd.R_keep (I81_.apart (show I81_ w _ g339 t337 t338 from by repeat (first | (with_reducible first | exact HI339.out | apply I81_.alloc | apply I81_.drewN | apply I81_.drew | apply I81_.set_1 | refine I81_.far ?_ NB339_336.out _) | exact HI339.out)) (by (with_reducible repeat (first | apply Kd.R_alloc | apply Kd.R_drewN | apply Kd.R_drew)); exact (Q_HO348 h0_)) (by decide)) hk (fun _ h => h.2)) (fun _ h => h.1)) (fun _ h_ => by first | trivial | exact h_ | exact h_.1))
     clear BK336
     clear HB
     clear HI339
     have BK336 := n0_
     have HO342 := n1_
     have HB := n2_
     have HI339 := n3_
     clear n0_ n1_ n2_ n3_
     (try clear hb)
     (try clear hb2)
     (try clear hk)
     (try clear hi)
     (try clear ho0)
     refine hK.out _ _ ⟨v341, v347, adz_v347, m10_, m12_, (by rw [ha.out]; exact putSel_upk 0 hb_ rfl rfl rfl), fun _ => (by (with_reducible repeat (first | refine bN_ ?_ _ | refine bD_ ?_ | refine bA_ ?_ _)); exact BK336.out), fun h0_ => absurd ((up_self b 1).symm.trans h0_) (by decide), (by repeat (first | (with_reducible first | exact HB.out | apply eA_ | apply pN_ | apply eD_ | refine eS_ ?_ (I81_.ge HI339.out) | refine eS_ ?_ GE336.out) | exact HB.out)), fun _ => (by (with_reducible repeat (first | apply Kd.R_alloc | apply Kd.R_drewN | apply Kd.R_drew)); exact HO342.out), fun _ _ => (by repeat (first | (with_reducible first | exact HI339.out | apply I81_.alloc | apply I81_.drewN | apply I81_.drew | apply I81_.set_1 | refine I81_.far ?_ NB339_336.out _) | exact HI339.out)), fun h0_ _ => absurd ((hoff 3 (by kernel_rfl)).symm.trans h0_) (by decide), z_HO348, Q_HA_HO348, fun h0_ => absurd ((hoff 9 (by kernel_rfl)).symm.trans h0_) (by decide), fun h0_ => absurd ((hoff 14 (by kernel_rfl)).symm.trans h0_) (by decide), fun h0_ => absurd ((hoff 10 (by kernel_rfl)).symm.trans h0_) (by decide), fun h0_ => absurd ((hoff 12 (by kernel_rfl)).symm.trans h0_) (by decide)⟩
    refine steps_cons ?_ ?_
    ·rintro b a w' ⟨v341, v347, adz_v347, m10_, m12_, ha, Q_BK336, Q_HI339, Q_HB, Q_HO342, Q_HI339_e1, Q_HI339_e3, Q_HO348, Q_HA_HO348, Q_HI339_e9, Q_BK336_e14, Q_X10_, Q_X12_⟩ hb_ hon hoff
     refine ⟨_, rfl, fun K hK => ?_⟩
     have e10 : a.tmps[10]? = some (.pointer (some ⟨g339, 0, none⟩)) := by rw [ha]; exact (putSel_off rfl).trans rfl
     replace ha := Az_.mk ha
     have BK336 := Az_.mk (Q_BK336 (hoff 14 (by kernel_rfl)))
     have HB := Az_.mk Q_HB
     have HO342 := Az_.mk (Q_HO342 (hon 1 (by kernel_rfl)))
     have HI339 := Az_.mk (Q_HI339_e1 (hon 1 (by kernel_rfl)) hb_)
     refine goes_ Try.func53 (by kernel_rfl) rfl #[.pointer (some ⟨g339, 0, none⟩), .int .i64 3] (by rfl) rfl rfl (by first | (simp only [List.map_toArray, List.map_cons, List.map_nil, Act.eval, Array.getD_eq_getD_getElem?, Option.getD_some, e10]; done) | (simp only [List.map_toArray, List.map_cons, List.map_nil, Act.eval, Array.getD_eq_getD_getElem?, Option.getD_some, e10]; rfl)) ?_
     with_reducible refine (spec_l20Rd_pick.calls k g339 t337 t343 3 t344 t345 w _ ?side1 ?side2 A4.out).mono ?_
     (case side1 => repeat (first | (with_reducible first | exact HI339.out | apply I81_.alloc | apply I81_.drewN | apply I81_.drew | apply I81_.set_1 | refine I81_.far ?_ NB339_336.out _) | exact HI339.out))
     (case side2 => repeat (first | (with_reducible first | exact HB.out | apply eA_ | apply pN_ | apply eD_ | refine eS_ ?_ (I81_.ge HI339.out) | refine eS_ ?_ GE336.out) | exact HB.out))
     rintro e w13 ⟨rfl, hi, hb, hk⟩
     refine ⟨_, rfl, ?_⟩
     have n0_ := Az_.mk (KeepBut.blk hk (g' := gb336) (o := .cells #[.int .i64 0, .int .i64 0] 26 (0, 0)) (by (with_reducible repeat (first | refine bN_ ?_ _ | refine bD_ ?_ | refine bA_ ?_ _)); exact BK336.out) NB336_339.out (by simp))
     have n1_ := Az_.mk (Kd.R_mono (Kd.R_keep (I81_.apart (show I81_ w _ g339 t337 t343 from by repeat (first | (with_reducible first | exact HI339.out | apply I81_.alloc | apply I81_.drewN | apply I81_.drew | apply I81_.set_1 | refine I81_.far ?_ NB339_336.out _) | exact HI339.out)) (by (with_reducible repeat (first | apply Kd.R_alloc | apply Kd.R_drewN | apply Kd.R_drew)); exact HO342.out) (by decide)) hk (fun _ h => h.2)) (fun _ h => h.1))
     have n2_ := Az_.mk (hb)
     have n3_ := Az_.mk (hi)
     have z_HO348 := fun (h0_ : b 7 = true) => (show Kd.R k26 26 w13 w.heap.size (fun k_ => k_ ≠ gb336) v347 y346 from by first | exact (Kd.R_mono (Kd.R_keep (I81_.apart (show I81_ w _ g339 t337 t343 from by repeat (first | (with_reducible first | exact HI339.out | apply I81_.alloc | apply I81_.drewN | apply I81_.drew | apply I81_.set_1 | refine I81_.far ?_ NB339_336.out _) | exact HI339.out)) (by (with_reducible repeat (first | apply Kd.R_alloc | apply Kd.R_drewN | apply Kd.R_drew)); exact (Q_HO348 h0_)) (by decide)) hk (fun _ h => h.2)) (fun _ h => h.1)) | exact Kd.R_mono (Kd.R_mono (Kd.R_keep (I81_.apart (show I81_ w _ g339 t337 t343 from by repeat (first | (with_reducible first | exact HI339.out | apply I81_.alloc | apply I81_.drewN | apply I81_.drew | apply I81_.set_1 | refine I81_.far ?_ NB339_336.out _) | exact HI339.out)) (by (with_reducible repeat (first | apply Kd.R_alloc | apply Kd.R_drewN | apply Kd.R_drew)); exact (Q_HO348 h0_)) (by decide)) hk (fun _ h => h.2)) (fun _ h => h.1)) (fun _ h_ => by first | trivial | exact h_ | exact h_.1))
     clear BK336
     clear HO342
     clear HB
     clear HI339
     have BK336 := n0_
     have HO342 := n1_
     have HB := n2_
     have HI339 := n3_
     clear n0_ n1_ n2_ n3_
     (try clear hb)
     (try clear hb2)
     (try clear hk)
     (try clear hi)
     refine hK.out _ _ ⟨v341, v347, adz_v347, m10_, m12_, (by rw [ha.out]; exact putSel_upk 1 hb_ rfl rfl rfl), fun _ => (by (with_reducible repeat (first | refine bN_ ?_ _ | refine bD_ ?_ | refine bA_ ?_ _)); exact BK336.out), fun h0_ => absurd ((hon 1 (by kernel_rfl)).symm.trans h0_) (by decide), (by repeat (first | (with_reducible first | exact HB.out | apply eA_ | apply pN_ | apply eD_ | refine eS_ ?_ (I81_.ge HI339.out) | refine eS_ ?_ GE336.out) | exact HB.out)), fun _ => (by (with_reducible repeat (first | apply Kd.R_alloc | apply Kd.R_drewN | apply Kd.R_drew)); exact HO342.out), fun _ h1_ => absurd ((up_self b 3).symm.trans h1_) (by decide), fun _ _ => (by repeat (first | (with_reducible first | exact HI339.out | apply I81_.alloc | apply I81_.drewN | apply I81_.drew | apply I81_.set_1 | refine I81_.far ?_ NB339_336.out _) | exact HI339.out)), z_HO348, Q_HA_HO348, fun h0_ => absurd ((hoff 9 (by kernel_rfl)).symm.trans h0_) (by decide), fun h0_ => absurd ((hoff 14 (by kernel_rfl)).symm.trans h0_) (by decide), fun h0_ => absurd ((hoff 10 (by kernel_rfl)).symm.trans h0_) (by decide), fun h0_ => absurd ((hoff 12 (by kernel_rfl)).symm.trans h0_) (by decide)⟩
    refine steps_cons ?_ ?_
    ·rintro b a w' ⟨v341, v347, adz_v347, m10_, m12_, ha, Q_BK336, Q_HI339, Q_HB, Q_HO342, Q_HI339_e1, Q_HI339_e3, Q_HO348, Q_HA_HO348, Q_HI339_e9, Q_BK336_e14, Q_X10_, Q_X12_⟩ hb_ hon hoff
     refine ⟨_, rfl, fun K hK => ?_⟩
     replace ha := Az_.mk ha
     have BK336 := Az_.mk (Q_BK336 (hoff 14 (by kernel_rfl)))
     have HB := Az_.mk Q_HB
     refine value_ (w1 := w') (v := .agg #[.int .i64 0, .int .i64 5]) (by rfl) rfl ?_ ?_
     ·go_simp
      (try simp only [i64_w])
      try rfl
     refine hK.out _ _ ⟨v341, v347, adz_v347, m10_, m12_, (by rw [ha.out]; exact putSel_upk 2 hb_ rfl rfl rfl), Q_BK336, Q_HI339, Q_HB, Q_HO342, Q_HI339_e1, Q_HI339_e3, fun h0_ => absurd ((hoff 7 (by kernel_rfl)).symm.trans h0_) (by decide), fun h0_ => absurd ((hoff 7 (by kernel_rfl)).symm.trans h0_) (by decide), Q_HI339_e9, fun h0_ => absurd ((hoff 14 (by kernel_rfl)).symm.trans h0_) (by decide), fun h0_ => absurd ((hoff 10 (by kernel_rfl)).symm.trans h0_) (by decide), Q_X12_⟩
    refine steps_cons ?_ ?_
    ·rintro b a w' ⟨v341, v347, adz_v347, m10_, m12_, ha, Q_BK336, Q_HI339, Q_HB, Q_HO342, Q_HI339_e1, Q_HI339_e3, Q_HO348, Q_HA_HO348, Q_HI339_e9, Q_BK336_e14, Q_X10_, Q_X12_⟩ hb_ hon hoff
     refine ⟨_, rfl, fun K hK => ?_⟩
     replace ha := Az_.mk ha
     have BK336 := Az_.mk (Q_BK336 (hoff 14 (by kernel_rfl)))
     have HB := Az_.mk Q_HB
     refine value_ (w1 := w') (v := .agg #[.int .i64 5, .int .i64 10]) (by rfl) rfl ?_ ?_
     ·go_simp
      (try simp only [i64_w])
      try rfl
     refine hK.out _ _ ⟨v341, v347, adz_v347, m10_, m12_, (by rw [ha.out]; exact putSel_upk 3 hb_ rfl rfl rfl), Q_BK336, Q_HI339, Q_HB, Q_HO342, Q_HI339_e1, Q_HI339_e3, fun h0_ => absurd ((hoff 7 (by kernel_rfl)).symm.trans h0_) (by decide), fun h0_ => absurd ((hoff 7 (by kernel_rfl)).symm.trans h0_) (by decide), Q_HI339_e9, fun h0_ => absurd ((hoff 14 (by kernel_rfl)).symm.trans h0_) (by decide), fun h0_ => absurd ((hoff 10 (by kernel_rfl)).symm.trans h0_) (by decide), Q_X12_⟩
    refine steps_cons ?_ ?_
    ·rintro b a w' ⟨v341, v347, adz_v347, m10_, m12_, ha, Q_BK336, Q_HI339, Q_HB, Q_HO342, Q_HI339_e1, Q_HI339_e3, Q_HO348, Q_HA_HO348, Q_HI339_e9, Q_BK336_e14, Q_X10_, Q_X12_⟩ hb_ hon hoff
     refine ⟨_, rfl, fun K hK => ?_⟩
     replace ha := Az_.mk ha
     have BK336 := Az_.mk (Q_BK336 (hoff 14 (by kernel_rfl)))
     have HB := Az_.mk Q_HB
     refine value_ (w1 := w') (v := .agg #[.int .i64 3, .int .i64 12]) (by rfl) rfl ?_ ?_
     ·go_simp
      (try simp only [i64_w])
      try rfl
     refine hK.out _ _ ⟨v341, v347, adz_v347, m10_, m12_, (by rw [ha.out]; exact putSel_upk 4 hb_ rfl rfl rfl), Q_BK336, Q_HI339, Q_HB, Q_HO342, Q_HI339_e1, Q_HI339_e3, fun h0_ => absurd ((hoff 7 (by kernel_rfl)).symm.trans h0_) (by decide), fun h0_ => absurd ((hoff 7 (by kernel_rfl)).symm.trans h0_) (by decide), Q_HI339_e9, fun h0_ => absurd ((hoff 14 (by kernel_rfl)).symm.trans h0_) (by decide), fun h0_ => absurd ((hoff 10 (by kernel_rfl)).symm.trans h0_) (by decide), Q_X12_⟩
    refine steps_cons ?_ ?_
    ·rintro b a w' ⟨v341, v347, adz_v347, m10_, m12_, ha, Q_BK336, Q_HI339, Q_HB, Q_HO342, Q_HI339_e1, Q_HI339_e3, Q_HO348, Q_HA_HO348, Q_HI339_e9, Q_BK336_e14, Q_X10_, Q_X12_⟩ hb_ hon hoff
     refine ⟨_, rfl, fun K hK => ?_⟩
     have e12 : a.tmps[12]? = some (.agg #[.int .i64 0, .int .i64 5]) := by rw [ha]; exact putSel_on (e := (4, 12, .agg #[.int .i64 0, .int .i64 5])) 2 rfl rfl (hon 4 (by kernel_rfl)) rfl
     have e13 : a.tmps[13]? = some (.agg #[.int .i64 5, .int .i64 10]) := by rw [ha]; exact putSel_on (e := (5, 13, .agg #[.int .i64 5, .int .i64 10])) 3 rfl rfl (hon 5 (by kernel_rfl)) rfl
     have e14 : a.tmps[14]? = some (.agg #[.int .i64 3, .int .i64 12]) := by rw [ha]; exact putSel_on (e := (6, 14, .agg #[.int .i64 3, .int .i64 12])) 4 rfl rfl (hon 6 (by kernel_rfl)) rfl
     replace ha := Az_.mk ha
     have BK336 := Az_.mk (Q_BK336 (hoff 14 (by kernel_rfl)))
     have HB := Az_.mk Q_HB
     refine Kd.R_lit_step k26 _ 26 ?hg (N := 15) ?hd (xs := ([(⟨0, 5⟩ : S26), (⟨5, 10⟩ : S26), (⟨3, 12⟩ : S26)] : List (S26))) (inner := [.int .i64 0, .int .i64 5, .int .i64 5, .int .i64 10, .int .i64 3, .int .i64 12]) (ok := fun _ => True) (okp := fun _ => True) ?hr ?hp (fun _ hk => hk) trivial (Below.refl _ _) (Nat.le_refl _) (by simp) ?_; (case hd => rfl); (case hg => rfl); (case hr => first | (go_simp; done) | (go_simp; rfl)); (case hp => exact (Reps.c2 (show Kd.M k26 _ _ _ (⟨0, 5⟩ : S26) [.int .i64 0, .int .i64 5] from (k26_mkM _ _ _ (⟨0, 5⟩ : S26) )) (Reps.c2 (show Kd.M k26 _ _ _ (⟨5, 10⟩ : S26) [.int .i64 5, .int .i64 10] from (k26_mkM _ _ _ (⟨5, 10⟩ : S26) )) (Reps.c2 (show Kd.M k26 _ _ _ (⟨3, 12⟩ : S26) [.int .i64 3, .int .i64 12] from (k26_mkM _ _ _ (⟨3, 12⟩ : S26) )) (Reps.none _ _)))))
     intro v347 w11 ho12 hb hg_ hnew_
     clear hg_ hnew_
     (first | rw [← Ny346.out] at ho12 | (simp only [Int.reduceToNat] at ho12; rw [← Ny346.out] at ho12))
     have n0_ := Az_.mk (Kd.R_lower (Kd.R_newB ho12 (g := gb336) (o := .cells #[.int .i64 0, .int .i64 0] 26 (0, 0)) (by (with_reducible repeat (first | refine bN_ ?_ _ | refine bD_ ?_ | refine bA_ ?_ _)); exact BK336.out)) (below_size (by repeat (first | (with_reducible first | exact HB.out | apply eA_ | apply pN_ | apply eD_ | refine eS_ ?_ GE336.out) | exact HB.out))))
     have n1_ := Az_.mk (bB_ (g := gb336) (o := .cells #[.int .i64 0, .int .i64 0] 26 (0, 0)) (by (with_reducible repeat (first | refine bN_ ?_ _ | refine bD_ ?_ | refine bA_ ?_ _)); exact BK336.out) hb)
     have n3_ := Az_.mk (below_step (by repeat (first | (with_reducible first | exact HB.out | apply eA_ | apply pN_ | apply eD_ | refine eS_ ?_ GE336.out) | exact HB.out)) hb)
     have z_HI339 := fun (h0_ : b 1 = false) => (show I81_ w w11 g339 t337 t338 from by first | exact (I81_.below (by repeat (first | (with_reducible first | exact (Q_HI339 h0_) | apply I81_.alloc | apply I81_.drewN | apply I81_.drew | apply I81_.set_1 | refine I81_.far ?_ NB339_336.out _) | exact (Q_HI339 h0_))) hb))
     have z_HO342 := fun (h0_ : b 1 = true) => (show Kd.R k67 67 w11 w.heap.size (fun _ => True) v341 t340 from by first | exact (Kd.R_below (by (with_reducible repeat (first | apply Kd.R_alloc | apply Kd.R_drewN | apply Kd.R_drew)); exact (Q_HO342 h0_)) hb) | exact Kd.R_mono (Kd.R_below (by (with_reducible repeat (first | apply Kd.R_alloc | apply Kd.R_drewN | apply Kd.R_drew)); exact (Q_HO342 h0_)) hb) (fun _ h_ => by first | trivial | exact h_ | exact h_.1))
     have z_HI339_e1 := fun (h0_ : b 1 = true) (h1_ : b 3 = false) => (show I81_ w w11 g339 t337 t343 from by first | exact (I81_.below (by repeat (first | (with_reducible first | exact (Q_HI339_e1 h0_ h1_) | apply I81_.alloc | apply I81_.drewN | apply I81_.drew | apply I81_.set_1 | refine I81_.far ?_ NB339_336.out _) | exact (Q_HI339_e1 h0_ h1_))) hb))
     have z_HI339_e3 := fun (h0_ : b 3 = true) (h1_ : b 9 = false) => (show I81_ w w11 g339 t337 t345 from by first | exact (I81_.below (by repeat (first | (with_reducible first | exact (Q_HI339_e3 h0_ h1_) | apply I81_.alloc | apply I81_.drewN | apply I81_.drew | apply I81_.set_1 | refine I81_.far ?_ NB339_336.out _) | exact (Q_HI339_e3 h0_ h1_))) hb))
     have z_HI339_e9 := fun (h0_ : b 9 = true) => (show I81_ w w11 g339 t337 t350 from by first | exact (I81_.below (by repeat (first | (with_reducible first | exact (Q_HI339_e9 h0_) | apply I81_.alloc | apply I81_.drewN | apply I81_.drew | apply I81_.set_1 | refine I81_.far ?_ NB339_336.out _) | exact (Q_HI339_e9 h0_))) hb))
     clear BK336
     clear HB
     have HO348 := n0_
     have BK336 := n1_
     have HB := n3_
     clear n0_ n1_ n3_
     clear hb ho12
     obtain ⟨Ao13, co13, eo13⟩ := Kd.R_slice HO348.out
     subst eo13
     obtain ⟨ado13, fo13, _⟩ := at_T26 (Kd.R_reads' HO348.out).2.2 0 (by decide) (by rw [Ny346.out]; simp)
     cases fo13
     refine hK.out _ _ ⟨v341, .slice (some ado13) y346.length co13, ado13, m10_, m12_, (by rw [ha.out]; exact putSel_upk 5 hb_ rfl rfl rfl), fun _ => (by (with_reducible repeat (first | refine bN_ ?_ _ | refine bD_ ?_ | refine bA_ ?_ _)); exact BK336.out), z_HI339, (by repeat (first | (with_reducible first | exact HB.out | apply eA_ | apply pN_ | apply eD_ | refine eS_ ?_ GE336.out) | exact HB.out)), z_HO342, z_HI339_e1, z_HI339_e3, fun _ => (by (with_reducible repeat (first | apply Kd.R_alloc | apply Kd.R_drewN | apply Kd.R_drew)); exact Kd.R_mono HO348.out (fun _ hk => hk.2)), fun _ => ⟨_, rfl⟩, z_HI339_e9, fun h0_ => absurd ((hoff 14 (by kernel_rfl)).symm.trans h0_) (by decide), fun h0_ => absurd ((hoff 10 (by kernel_rfl)).symm.trans h0_) (by decide), Q_X12_⟩
    refine steps_cons ?_ ?_
    ·rintro b a w' ⟨v341, v347, adz_v347, m10_, m12_, ha, Q_BK336, Q_HI339, Q_HB, Q_HO342, Q_HI339_e1, Q_HI339_e3, Q_HO348, Q_HA_HO348, Q_HI339_e9, Q_BK336_e14, Q_X10_, Q_X12_⟩ hb_ hon hoff
     refine ⟨_, rfl, fun K hK => ?_⟩
     have e16 : a.tmps[16]? = some (.pointer (some ⟨g339, 0, none⟩)) := by rw [ha]; exact (putSel_off rfl).trans rfl
     replace ha := Az_.mk ha
     have BK336 := Az_.mk (Q_BK336 (hoff 14 (by kernel_rfl)))
     have HB := Az_.mk Q_HB
     have HO342 := Az_.mk (Q_HO342 (hon 1 (by kernel_rfl)))
     have HI339 := Az_.mk (Q_HI339_e3 (hon 3 (by kernel_rfl)) hb_)
     refine goes_ Try.func53 (by kernel_rfl) rfl #[.pointer (some ⟨g339, 0, none⟩), .int .i64 3] (by rfl) rfl rfl (by first | (simp only [List.map_toArray, List.map_cons, List.map_nil, Act.eval, Array.getD_eq_getD_getElem?, Option.getD_some, e16]; done) | (simp only [List.map_toArray, List.map_cons, List.map_nil, Act.eval, Array.getD_eq_getD_getElem?, Option.getD_some, e16]; rfl)) ?_
     with_reducible refine (spec_l20Rd_pick.calls k g339 t337 t345 3 t349 t350 w _ ?side1 ?side2 A5.out).mono ?_
     (case side1 => repeat (first | (with_reducible first | exact HI339.out | apply I81_.alloc | apply I81_.drewN | apply I81_.drew | apply I81_.set_1 | refine I81_.far ?_ NB339_336.out _) | exact HI339.out))
     (case side2 => repeat (first | (with_reducible first | exact HB.out | apply eA_ | apply pN_ | apply eD_ | refine eS_ ?_ (I81_.ge HI339.out) | refine eS_ ?_ GE336.out) | exact HB.out))
     rintro e w14 ⟨rfl, hi, hb, hk⟩
     refine ⟨_, rfl, ?_⟩
     have n0_ := Az_.mk (KeepBut.blk hk (g' := gb336) (o := .cells #[.int .i64 0, .int .i64 0] 26 (0, 0)) (by (with_reducible repeat (first | refine bN_ ?_ _ | refine bD_ ?_ | refine bA_ ?_ _)); exact BK336.out) NB336_339.out (by simp))
     have n1_ := Az_.mk (Kd.R_mono (Kd.R_keep (I81_.apart (show I81_ w _ g339 t337 t345 from by repeat (first | (with_reducible first | exact HI339.out | apply I81_.alloc | apply I81_.drewN | apply I81_.drew | apply I81_.set_1 | refine I81_.far ?_ NB339_336.out _) | exact HI339.out)) (by (with_reducible repeat (first | apply Kd.R_alloc | apply Kd.R_drewN | apply Kd.R_drew)); exact HO342.out) (by decide)) hk (fun _ h => h.2)) (fun _ h => h.1))
     have n2_ := Az_.mk (hb)
     have n3_ := Az_.mk (hi)
     have z_HO348 := fun (h0_ : b 7 = true) => (show Kd.R k26 26 w14 w.heap.size (fun k_ => k_ ≠ gb336) v347 y346 from by first | exact (Kd.R_mono (Kd.R_keep (I81_.apart (show I81_ w _ g339 t337 t345 from by repeat (first | (with_reducible first | exact HI339.out | apply I81_.alloc | apply I81_.drewN | apply I81_.drew | apply I81_.set_1 | refine I81_.far ?_ NB339_336.out _) | exact HI339.out)) (by (with_reducible repeat (first | apply Kd.R_alloc | apply Kd.R_drewN | apply Kd.R_drew)); exact (Q_HO348 h0_)) (by decide)) hk (fun _ h => h.2)) (fun _ h => h.1)) | exact Kd.R_mono (Kd.R_mono (Kd.R_keep (I81_.apart (show I81_ w _ g339 t337 t345 from by repeat (first | (with_reducible first | exact HI339.out | apply I81_.alloc | apply I81_.drewN | apply I81_.drew | apply I81_.set_1 | refine I81_.far ?_ NB339_336.out _) | exact HI339.out)) (by (with_reducible repeat (first | apply Kd.R_alloc | apply Kd.R_drewN | apply Kd.R_drew)); exact (Q_HO348 h0_)) (by decide)) hk (fun _ h => h.2)) (fun _ h => h.1)) (fun _ h_ => by first | trivial | exact h_ | exact h_.1))
     clear BK336
     clear HO342
     clear HB
     clear HI339
     have BK336 := n0_
     have HO342 := n1_
     have HB := n2_
     have HI339 := n3_
     clear n0_ n1_ n2_ n3_
     (try clear hb)
     (try clear hb2)
     (try clear hk)
     (try clear hi)
     refine hK.out _ _ ⟨v341, v347, adz_v347, m10_, m12_, (by rw [ha.out]; exact putSel_upk 6 hb_ rfl rfl rfl), fun _ => (by (with_reducible repeat (first | refine bN_ ?_ _ | refine bD_ ?_ | refine bA_ ?_ _)); exact BK336.out), fun h0_ => absurd ((hon 1 (by kernel_rfl)).symm.trans h0_) (by decide), (by repeat (first | (with_reducible first | exact HB.out | apply eA_ | apply pN_ | apply eD_ | refine eS_ ?_ (I81_.ge HI339.out) | refine eS_ ?_ GE336.out) | exact HB.out)), fun _ => (by (with_reducible repeat (first | apply Kd.R_alloc | apply Kd.R_drewN | apply Kd.R_drew)); exact HO342.out), fun _ h1_ => absurd ((hon 3 (by kernel_rfl)).symm.trans h1_) (by decide), fun _ h1_ => absurd ((up_self b 9).symm.trans h1_) (by decide), z_HO348, Q_HA_HO348, fun _ => (by repeat (first | (with_reducible first | exact HI339.out | apply I81_.alloc | apply I81_.drewN | apply I81_.drew | apply I81_.set_1 | refine I81_.far ?_ NB339_336.out _) | exact HI339.out)), fun h0_ => absurd ((hoff 14 (by kernel_rfl)).symm.trans h0_) (by decide), fun h0_ => absurd ((hoff 10 (by kernel_rfl)).symm.trans h0_) (by decide), fun h0_ => absurd ((hoff 12 (by kernel_rfl)).symm.trans h0_) (by decide)⟩
    refine steps_cons ?_ ?_
    ·rintro b a w' ⟨v341, v347, adz_v347, m10_, m12_, ha, Q_BK336, Q_HI339, Q_HB, Q_HO342, Q_HI339_e1, Q_HI339_e3, Q_HO348, Q_HA_HO348, Q_HI339_e9, Q_BK336_e14, Q_X10_, Q_X12_⟩ hb_ hon hoff
     refine ⟨_, rfl, fun K hK => ?_⟩
     have e15 : a.tmps[15]? = some (v347) := by rw [ha]; exact putSel_on (e := (7, 15, v347)) 5 rfl rfl (hon 7 (by kernel_rfl)) rfl
     have e17 : a.tmps[17]? = some (.int .i64 t349) := by rw [ha]; exact putSel_on (e := (9, 17, .int .i64 t349)) 6 rfl rfl (hon 9 (by kernel_rfl)) rfl
     replace ha := Az_.mk ha
     have BK336 := Az_.mk (Q_BK336 (hoff 14 (by kernel_rfl)))
     have HB := Az_.mk Q_HB
     have HO342 := Az_.mk (Q_HO342 (hon 1 (by kernel_rfl)))
     have HO348 := Az_.mk (Q_HO348 (hon 7 (by kernel_rfl)))
     have HA_HO348 := Az_.mk (Q_HA_HO348 (hon 7 (by kernel_rfl)))
     have HI339 := Az_.mk (Q_HI339_e9 (hon 9 (by kernel_rfl)))
     obtain ⟨c_, hv_⟩ := HA_HO348.out
     rw [hv_] at e15
     refine value_ (w1 := w') (v := .pointer (some (adz_v347.add ((t349).toNat * 2)))) (by rfl) rfl ?_ ?_
     ·go_simp
      (try simp only [i64_w])
      try rfl
     refine hK.out _ _ ⟨v341, v347, adz_v347, (.pointer (some (adz_v347.add ((t349).toNat * 2)))), m12_, (by rw [ha.out]; exact putSel_upk 7 hb_ rfl rfl rfl), Q_BK336, fun h0_ => absurd ((hon 1 (by kernel_rfl)).symm.trans h0_) (by decide), Q_HB, Q_HO342, fun _ h1_ => absurd ((hon 3 (by kernel_rfl)).symm.trans h1_) (by decide), fun _ h1_ => absurd ((hon 9 (by kernel_rfl)).symm.trans h1_) (by decide), Q_HO348, Q_HA_HO348, Q_HI339_e9, fun h0_ => absurd ((hoff 14 (by kernel_rfl)).symm.trans h0_) (by decide), fun _ => rfl, Q_X12_⟩
    refine steps_cons ?_ ?_
    ·rintro b a w' ⟨v341, v347, adz_v347, m10_, m12_, ha, Q_BK336, Q_HI339, Q_HB, Q_HO342, Q_HI339_e1, Q_HI339_e3, Q_HO348, Q_HA_HO348, Q_HI339_e9, Q_BK336_e14, Q_X10_, Q_X12_⟩ hb_ hon hoff
     refine ⟨_, rfl, fun K hK => ?_⟩
     have e18 : a.tmps[18]? = some (m10_) := by rw [ha]; exact putSel_on (e := (10, 18, m10_)) 7 rfl rfl (hon 10 (by kernel_rfl)) rfl
     rw [Q_X10_ (hon 10 (by kernel_rfl))] at e18
     replace ha := Az_.mk ha
     have BK336 := Az_.mk (Q_BK336 (hoff 14 (by kernel_rfl)))
     have HB := Az_.mk Q_HB
     have HO342 := Az_.mk (Q_HO342 (hon 1 (by kernel_rfl)))
     have HO348 := Az_.mk (Q_HO348 (hon 7 (by kernel_rfl)))
     have HA_HO348 := Az_.mk (Q_HA_HO348 (hon 7 (by kernel_rfl)))
     have HI339 := Az_.mk (Q_HI339_e9 (hon 9 (by kernel_rfl)))
     obtain ⟨c_, hv_⟩ := HA_HO348.out
     have hF_ := HO348.out
     rw [hv_] at hF_
     obtain ⟨ad_, ea_, hx_, hx1_⟩ := at_T26 (Kd.R_reads' hF_).2.2 t349 (of_eq_true pi351) (of_eq_true qi351)
     cases ea_
     refine value_ (w1 := w') (v := .agg #[.int .i64 ((rd_T26 y346 t349).f0), .int .i64 ((rd_T26 y346 t349).f1)]) (by rfl) rfl ?_ ?_
     ·go_simp
      (try simp only [i64_w])
      try rfl
     refine hK.out _ _ ⟨v341, v347, adz_v347, m10_, m12_, (by rw [ha.out]; exact putSel_upk 8 hb_ rfl rfl rfl), Q_BK336, fun h0_ => absurd ((hon 1 (by kernel_rfl)).symm.trans h0_) (by decide), Q_HB, Q_HO342, fun _ h1_ => absurd ((hon 3 (by kernel_rfl)).symm.trans h1_) (by decide), fun _ h1_ => absurd ((hon 9 (by kernel_rfl)).symm.trans h1_) (by decide), Q_HO348, Q_HA_HO348, Q_HI339_e9, fun h0_ => absurd ((hoff 14 (by kernel_rfl)).symm.trans h0_) (by decide), Q_X10_, Q_X12_⟩
    refine steps_cons ?_ ?_
    ·rintro b a w' ⟨v341, v347, adz_v347, m10_, m12_, ha, Q_BK336, Q_HI339, Q_HB, Q_HO342, Q_HI339_e1, Q_HI339_e3, Q_HO348, Q_HA_HO348, Q_HI339_e9, Q_BK336_e14, Q_X10_, Q_X12_⟩ hb_ hon hoff
     refine ⟨_, rfl, fun K hK => ?_⟩
     have e9 : a.tmps[9]? = some (v341) := by rw [ha]; exact putSel_on (e := (1, 9, v341)) 0 rfl rfl (hon 1 (by kernel_rfl)) rfl
     replace ha := Az_.mk ha
     have BK336 := Az_.mk (Q_BK336 (hoff 14 (by kernel_rfl)))
     have HB := Az_.mk Q_HB
     have HO342 := Az_.mk (Q_HO342 (hon 1 (by kernel_rfl)))
     have HI339 := Az_.mk (Q_HI339_e9 (hon 9 (by kernel_rfl)))
     refine value_ (w1 := w') (v := v341) (by rfl) rfl ?_ ?_
     ·go_simp
      (try simp only [i64_w])
      try rfl
     refine hK.out _ _ ⟨v341, v347, adz_v347, m10_, (v341), (by rw [ha.out]; exact putSel_upk 9 hb_ rfl rfl rfl), Q_BK336, fun h0_ => absurd ((hon 1 (by kernel_rfl)).symm.trans h0_) (by decide), Q_HB, Q_HO342, fun _ h1_ => absurd ((hon 3 (by kernel_rfl)).symm.trans h1_) (by decide), fun _ h1_ => absurd ((hon 9 (by kernel_rfl)).symm.trans h1_) (by decide), Q_HO348, Q_HA_HO348, Q_HI339_e9, fun h0_ => absurd ((hoff 14 (by kernel_rfl)).symm.trans h0_) (by decide), Q_X10_, fun _ => rfl⟩
    refine steps_cons ?_ ?_
    ·rintro b a w' ⟨v341, v347, adz_v347, m10_, m12_, ha, Q_BK336, Q_HI339, Q_HB, Q_HO342, Q_HI339_e1, Q_HI339_e3, Q_HO348, Q_HA_HO348, Q_HI339_e9, Q_BK336_e14, Q_X10_, Q_X12_⟩ hb_ hon hoff
     refine ⟨_, rfl, fun K hK => ?_⟩
     have e11 : a.tmps[11]? = some (.int .i64 t344) := by rw [ha]; exact putSel_on (e := (3, 11, .int .i64 t344)) 1 rfl rfl (hon 3 (by kernel_rfl)) rfl
     replace ha := Az_.mk ha
     have BK336 := Az_.mk (Q_BK336 (hoff 14 (by kernel_rfl)))
     have HB := Az_.mk Q_HB
     have HO342 := Az_.mk (Q_HO342 (hon 1 (by kernel_rfl)))
     have HI339 := Az_.mk (Q_HI339_e9 (hon 9 (by kernel_rfl)))
     refine value_ (w1 := w') (v := .int .i64 t344) (by rfl) rfl ?_ ?_
     ·go_simp
      (try simp only [i64_w])
      try rfl
     refine hK.out _ _ ⟨v341, v347, adz_v347, m10_, m12_, (by rw [ha.out]; exact putSel_upk 10 hb_ rfl rfl rfl), Q_BK336, fun h0_ => absurd ((hon 1 (by kernel_rfl)).symm.trans h0_) (by decide), Q_HB, Q_HO342, fun _ h1_ => absurd ((hon 3 (by kernel_rfl)).symm.trans h1_) (by decide), fun _ h1_ => absurd ((hon 9 (by kernel_rfl)).symm.trans h1_) (by decide), Q_HO348, Q_HA_HO348, Q_HI339_e9, fun h0_ => absurd ((hoff 14 (by kernel_rfl)).symm.trans h0_) (by decide), Q_X10_, Q_X12_⟩
    refine steps_cons ?_ ?_
    ·rintro b a w' ⟨v341, v347, adz_v347, m10_, m12_, ha, Q_BK336, Q_HI339, Q_HB, Q_HO342, Q_HI339_e1, Q_HI339_e3, Q_HO348, Q_HA_HO348, Q_HI339_e9, Q_BK336_e14, Q_X10_, Q_X12_⟩ hb_ hon hoff
     refine ⟨_, rfl, fun K hK => ?_⟩
     have e4 : a.tmps[4]? = some (.pointer (some ⟨gb336, 0, none⟩)) := by rw [ha]; exact (putSel_off rfl).trans rfl
     have e19 : a.tmps[19]? = some (.agg #[.int .i64 ((rd_T26 y346 t349).f0), .int .i64 ((rd_T26 y346 t349).f1)]) := by rw [ha]; exact putSel_on (e := (11, 19, .agg #[.int .i64 ((rd_T26 y346 t349).f0), .int .i64 ((rd_T26 y346 t349).f1)])) 8 rfl rfl (hon 11 (by kernel_rfl)) rfl
     replace ha := Az_.mk ha
     have BK336 := Az_.mk (Q_BK336 hb_)
     have HB := Az_.mk Q_HB
     have HO342 := Az_.mk (Q_HO342 (hon 1 (by kernel_rfl)))
     have HO348 := Az_.mk (Q_HO348 (hon 7 (by kernel_rfl)))
     have HA_HO348 := Az_.mk (Q_HA_HO348 (hon 7 (by kernel_rfl)))
     have HI339 := Az_.mk (Q_HI339_e9 (hon 9 (by kernel_rfl)))
     obtain ⟨co18, eo18⟩ := HA_HO348.out
     clear HA_HO348
     subst eo18
     have hs19 : w'.cell? ⟨gb336, 0, none⟩ = some (.int .i64 0) := (bC_ BK336.out 0).trans rfl
     have hfs19 := bF_ BK336.out 0
     have hs20 : w'.cell? ⟨gb336, 1, none⟩ = some (.int .i64 0) := (bC_ BK336.out 1).trans rfl
     have hfs20 := bF_ BK336.out 1
     refine skip_ (w1 := ?_) (by rfl) rfl ?_ ?_
     rotate_left
     ·go_simp
      rfl
     refine hK.out _ _ ⟨v341, .slice (some adz_v347) y346.length co18, adz_v347, m10_, m12_, (by rw [ha.out]; exact putSel_none (v := undef) rfl), fun h0_ => absurd ((up_self b 14).symm.trans h0_) (by decide), fun h0_ => absurd ((hon 1 (by kernel_rfl)).symm.trans h0_) (by decide), (by repeat (first | (with_reducible first | exact HB.out | apply eA_ | apply pN_ | apply eD_ | refine eS_ ?_ (I81_.ge HI339.out) | refine eS_ ?_ GE336.out) | exact HB.out)), fun _ => (by (with_reducible repeat (first | apply Kd.R_alloc | apply Kd.R_drewN | apply Kd.R_drew)); exact Kd.R_mono (Kd.R_far (p := ⟨gb336, 1, none⟩) (Kd.R_far (p := ⟨gb336, 0, none⟩) (Kd.R_types HO342.out BK336.out (by decide)) (fun _ hk => hk.2) (.int .i64 ((rd_T26 y346 t349).f0))) (fun _ hk => hk.2) (.int .i64 ((rd_T26 y346 t349).f1))) (fun _ hk => trivial)), fun _ h1_ => absurd ((hon 3 (by kernel_rfl)).symm.trans h1_) (by decide), fun _ h1_ => absurd ((hon 9 (by kernel_rfl)).symm.trans h1_) (by decide), fun _ => (by (with_reducible repeat (first | apply Kd.R_alloc | apply Kd.R_drewN | apply Kd.R_drew)); exact Kd.R_mono (Kd.R_far (p := ⟨gb336, 1, none⟩) (Kd.R_far (p := ⟨gb336, 0, none⟩) (Kd.R_mono HO348.out (fun k_ hk => (⟨hk, hk⟩ : _ ∧ k_ ≠ gb336))) (fun _ hk => hk.2) (.int .i64 ((rd_T26 y346 t349).f0))) (fun _ hk => hk.2) (.int .i64 ((rd_T26 y346 t349).f1))) (fun _ hk => hk.1)), fun _ => ⟨_, rfl⟩, fun _ => (by repeat (first | (with_reducible first | exact HI339.out | apply I81_.alloc | apply I81_.drewN | apply I81_.drew | apply I81_.set_1 | refine I81_.far ?_ NB339_336.out _) | exact HI339.out)), fun _ => (by (with_reducible repeat (first | refine bN_ ?_ _ | refine bD_ ?_ | refine bA_ ?_ _)); refine bP_ (cs := #[.int .i64 ((rd_T26 y346 t349).f0), .int .i64 0]) ?_ 1 _ rfl; (with_reducible repeat (first | refine bN_ ?_ _ | refine bD_ ?_ | refine bA_ ?_ _)); refine bP_ (cs := #[.int .i64 0, .int .i64 0]) ?_ 0 _ rfl; (with_reducible repeat (first | refine bN_ ?_ _ | refine bD_ ?_ | refine bA_ ?_ _)); exact BK336.out), Q_X10_, Q_X12_⟩
    exact steps_nil
   rintro b a w19 hall ⟨v341, v347, adz_v347, m10_, m12_, ha, Q_BK336, Q_HI339, Q_HB, Q_HO342, Q_HI339_e1, Q_HI339_e3, Q_HO348, Q_HA_HO348, Q_HI339_e9, Q_BK336_e14, Q_X10_, Q_X12_⟩
   clear BK336 HB HI339
   have hb1_ := hall 1 (by kernel_rfl)
   have hb3_ := hall 3 (by kernel_rfl)
   have hb4_ := hall 4 (by kernel_rfl)
   have hb5_ := hall 5 (by kernel_rfl)
   have hb6_ := hall 6 (by kernel_rfl)
   have hb7_ := hall 7 (by kernel_rfl)
   have hb9_ := hall 9 (by kernel_rfl)
   have hb10_ := hall 10 (by kernel_rfl)
   have hb11_ := hall 11 (by kernel_rfl)
   have hb12_ := hall 12 (by kernel_rfl)
   have hb13_ := hall 13 (by kernel_rfl)
   have hb14_ := hall 14 (by kernel_rfl)
   subst ha
   obtain rfl := Q_X10_ hb10_
   obtain rfl := Q_X12_ hb12_
   simp only [putSel, hb1_, hb3_, hb4_, hb5_, hb6_, hb7_, hb9_, hb10_, hb11_, hb12_, hb13_, hb14_, if_true, Act.put, List.setIfInBounds_toArray, List.set_cons_zero, List.set_cons_succ]
   clear Q_BK336
   clear Q_HI339
   have HB := Az_.mk Q_HB
   clear Q_HB
   have HO342 := Az_.mk (Q_HO342 hb1_)
   clear Q_HO342
   clear Q_HI339_e1
   clear Q_HI339_e3
   have HO348 := Az_.mk (Q_HO348 hb7_)
   clear Q_HO348
   have HA_HO348 := Az_.mk (Q_HA_HO348 hb7_)
   clear Q_HA_HO348
   have HI339 := Az_.mk (Q_HI339_e9 hb9_)
   clear Q_HI339_e9
   have BK336 := Az_.mk (Q_BK336_e14 hb14_)
   clear Q_BK336_e14
   clear hall hb1_ hb3_ hb4_ hb5_ hb6_ hb7_ hb9_ hb10_ hb11_ hb12_ hb13_ hb14_
   obtain ⟨co20, eo20⟩ := HA_HO348.out
   clear HA_HO348
   subst eo20
   try go_wp2
   refine bodyPost_ret (results_list (rs := [.tmp 2, .tmp 3, .cell 4 26]) rfl (by simp) (.tmp (.tmp (.cell gb336 26 #[.int .i64 ((rd_T26 y346 t349).f0), .int .i64 ((rd_T26 y346 t349).f1)] (0, 0) _ rfl (by (with_reducible repeat (first | refine bN_ ?_ _ | refine bD_ ?_ | refine bA_ ?_ _)); exact BK336.out) Try.underlying26 rfl (by kernel_rfl) .nil)))) rfl ?_
   exact ⟨_, by first | rfl | (simp [errW_none, errW_some] <;> rfl) | (simp [*, errW_none, errW_some] <;> rfl), by (with_reducible repeat (first | apply Kd.R_alloc | apply Kd.R_drewN | apply Kd.R_drew)); exact HO342.out, by repeat (first | (with_reducible first | exact HB.out | apply eA_ | apply pN_ | apply eD_ | refine eS_ ?_ (I81_.ge HI339.out) | refine eS_ ?_ GE336.out) | exact HB.out)⟩
  ·rw [if_neg c7] at H
   exact absurd H (by simp)
 ·rw [if_neg c6] at H
  exact absurd H (by simp)

/-! ### spec_DrawTabOut: function 41 -/
def spec_DrawTabOut.f (k : Nat) (l0 : List Int) : Option ((List (S67)) × Int × Int × Int) := (spec_DrawTabFind.f k l0).bind fun bt353 => (some (bt353.1, bt353.2.1, bt353.2.2.1, bt353.2.2.2))
theorem spec_DrawTabOut.mono : ∀ a0 k, LeO (spec_DrawTabOut.f k a0) (spec_DrawTabOut.f (k + 1) a0) := by
 intro a0 k
 unfold spec_DrawTabOut.f
 repeat' first
   | (with_reducible exact spec_DrawTabFind.mono _ _)
   | (with_reducible exact LeO.refl _)
   | (with_reducible exact LeO.none _)
   | (with_reducible refine LeO.ite ?_ ?_)
   | (with_reducible refine LeO.bind ?_ (fun _ => ?_))
   | exact spec_DrawTabFind.mono _ _
   | exact LeO.none _
   | refine LeO.ite ?_ ?_
   | refine LeO.bind ?_ (fun _ => ?_)
set_option maxHeartbeats 8000000 in
set_option maxRecDepth 100000 in
theorem spec_DrawTabOut.calls (k : Nat) (A0 : Option Addr) (c0 : Nat) (l0 : List Int) (r1 : List (S67)) (r2 : Int) (r3 : Int) (r4 : Int) (w : World) (hr0 : Kd.C (Kd.int .u8) w A0 l0.length l0) (hc0 : l0.length ≤ c0) (h : spec_DrawTabOut.f k l0 = some (r1, r2, r3, r4)) :
  Calls Try.prog 41 #[.slice A0 l0.length c0] w fun e w' => ∃ v0_ : Value, e = .returned (.tuple #[v0_, .int .i64 r2, .agg #[.int .i64 r3, .int .i64 r4]]) ∧ Kd.R k67 67 w' w.heap.size (fun _ => True) v0_ r1 ∧ Below w.heap.size w w' := by
 have hu26 := Try.underlying26
 have HR0 := Az_.mk hr0
 have HC0 := Az_.mk hc0
 clear hr0 hc0
 have HB := Az_.mk (Below.refl w.heap.size w)
 have H : ((spec_DrawTabFind.f k l0).bind fun bt353 => (some (bt353.1, bt353.2.1, bt353.2.2.1, bt353.2.2.2))) = some (r1, r2, r3, r4) := h
 clear h
 replace H := Option.bind_eq_some_iff.mp H
 obtain ⟨⟨t353, t356, t357, t358⟩, A20, H⟩ := H
 replace H : (some (t353, t356, t357, t358)) = some (r1, r2, r3, r4) := H
 have A2 := Az_.mk A20
 clear A20
 simp only [Option.some.injEq, Prod.mk.injEq] at H
 obtain ⟨rfl, rfl, rfl, rfl⟩ := H
 go_enter Try.func41, Try.ntmps41
 go_wp2_with (first | ((with_reducible refine gate_dst (N := 4) rfl ?_); refine box_event ?hg (N := 4) ?hd (cs := #[.int .i64 0, .int .i64 0]) (t := 26) ?hr ?_; (case hd => rfl); (case hg => rfl); (case hr => first | (go_simp; done) | (go_simp; rfl)); intro gb352 hg w3 hbox hb; have n0_ := Az_.mk (below_step (by repeat (first | (with_reducible first | exact HB.out | apply eA_ | apply pN_ | apply eD_) | exact HB.out)) hb); have n1_ := Az_.mk (hbox); have n2_ := Az_.mk ((by rw [hg]; exact (below_size (by repeat (first | (with_reducible first | exact HB.out | apply eA_ | apply pN_ | apply eD_) | exact HB.out))) : w.heap.size ≤ gb352)); have n3_ := Az_.mk ((by rw [hg]; exact (below_size (by repeat (first | (with_reducible first | exact HB.out | apply eA_ | apply pN_ | apply eD_) | exact HB.out))) : w.heap.size ≤ gb352)); clear HB; have HB := n0_; have BK352 := n1_; have GW352 := n2_; have GE352 := n3_; clear n0_ n1_ n2_ n3_; clear hb hbox hg) | ((with_reducible refine gate_callee (f := 57) rfl ?_); refine goesL_ (some 6) rfl rfl Try.func57 (by kernel_rfl) rfl #[.slice A0 l0.length c0] rfl (by (try simp only [List.map_toArray, List.map_cons, List.map_nil]); first | done | rfl | (simp only [List.length_drop, List.length_take]; rfl)) ?_; (with_reducible refine (spec_DrawTabFind.calls k _ _ l0 t353 t356 t357 t358 _ ?side1 ?side2 A2.out).mono ?_); (case side1 => repeat (first | exact (Kd.C_below HR0.out HB.out) | (with_reducible refine Kd.C_alloc ?_ _) | (with_reducible refine Kd.C_drewN ?_ _) | (with_reducible refine Kd.C_drew ?_))); (case side2 => exact HC0.out); rintro e w4 ⟨v354, rfl, ho0, hb⟩; refine ⟨_, rfl, ?_⟩; have n0_ := Az_.mk (Kd.R_lower ho0 (below_size (by repeat (first | (with_reducible first | exact HB.out | apply eA_ | apply pN_ | apply eD_ | refine eS_ ?_ GE352.out) | exact HB.out)))); have n1_ := Az_.mk (bB_ (g := gb352) (o := .cells #[.int .i64 0, .int .i64 0] 26 (0, 0)) (by (with_reducible repeat (first | refine bN_ ?_ _ | refine bD_ ?_ | refine bA_ ?_ _)); exact BK352.out) hb); have n2_ := Az_.mk (below_step (by repeat (first | (with_reducible first | exact HB.out | apply eA_ | apply pN_ | apply eD_ | refine eS_ ?_ GE352.out) | exact HB.out)) hb); clear BK352; clear HB; have HO355 := n0_; have BK352 := n1_; have HB := n2_; clear n0_ n1_ n2_; (try clear hb); (try clear hb2); (try clear hk); (try clear hi); (try clear ho0); have hcz5_0 : w4.cell? ⟨gb352, 0, none⟩ = some (.int .i64 0) := (bC_ BK352.out 0).trans rfl; have hcz5_1 : w4.cell? ⟨gb352, 1, none⟩ = some (.int .i64 0) := (bC_ BK352.out 1).trans rfl; have hfz5_0 := bF_ BK352.out 0; have hfz5_1 := bF_ BK352.out 1))
 refine bodyPost_ret (results_list (rs := [.tmp 2, .tmp 3, .cell 4 26]) rfl (by simp) (.tmp (.tmp (.cell gb352 26 #[.int .i64 t357, .int .i64 t358] (0, 0) _ rfl (by (with_reducible repeat (first | refine bN_ ?_ _ | refine bD_ ?_ | refine bA_ ?_ _)); refine bP_ (cs := #[.int .i64 t357, .int .i64 0]) ?_ 1 _ rfl; (with_reducible repeat (first | refine bN_ ?_ _ | refine bD_ ?_ | refine bA_ ?_ _)); refine bP_ (cs := #[.int .i64 0, .int .i64 0]) ?_ 0 _ rfl; (with_reducible repeat (first | refine bN_ ?_ _ | refine bD_ ?_ | refine bA_ ?_ _)); exact BK352.out) Try.underlying26 rfl (by kernel_rfl) .nil)))) rfl ?_
 exact ⟨_, by first | rfl | (simp [errW_none, errW_some] <;> rfl) | (simp [*, errW_none, errW_some] <;> rfl), by (with_reducible repeat (first | apply Kd.R_alloc | apply Kd.R_drewN | apply Kd.R_drew)); exact Kd.R_mono (Kd.R_far (p := ⟨gb352, 1, none⟩) (Kd.R_far (p := ⟨gb352, 0, none⟩) (Kd.R_types HO355.out BK352.out (by decide)) (fun _ hk => hk.2) (.int .i64 t357)) (fun _ hk => hk.2) (.int .i64 t358)) (fun _ hk => trivial), by repeat (first | (with_reducible first | exact HB.out | apply eA_ | apply pN_ | apply eD_ | refine eS_ ?_ GE352.out) | exact HB.out)⟩

/-! ### impl_TabRow_of: function 58 -/
def impl_TabRow_of.f (a0_0 : Int) (a0_1 : Int) (a0_2 : Int) (a0_3 : Int) (a0_4 : Int) (a0_5 : Int) (a0_6 : Int) (a1 : Int) (a2_0 : Int) (a2_1 : Int) : Option (Bool) := if a0_0 = a1 then (some (a0_1 == a2_0 && (a0_2 == a2_1))) else (some false)
set_option maxHeartbeats 8000000 in
set_option maxRecDepth 100000 in
theorem impl_TabRow_of.calls (a0_0 : Int) (a0_1 : Int) (a0_2 : Int) (a0_3 : Int) (a0_4 : Int) (a0_5 : Int) (a0_6 : Int) (a1 : Int) (a2_0 : Int) (a2_1 : Int) (r : Bool) (w : World) (h : impl_TabRow_of.f a0_0 a0_1 a0_2 a0_3 a0_4 a0_5 a0_6 a1 a2_0 a2_1 = some r) :
  Calls Try.prog 58 #[.agg #[.int .i64 a0_0, .int .i64 a0_1, .int .i64 a0_2, .int .i64 a0_3, .int .i64 a0_4, .int .i64 a0_5, .int .i64 a0_6], .int .i64 a1, .agg #[.int .i64 a2_0, .int .i64 a2_1]] w fun e w' => e = .returned (.bool r) ∧ Below w.heap.size w w' := by
 have hu67 := Try.underlying67
 have hu26 := Try.underlying26
 have HB := Az_.mk (Below.refl w.heap.size w)
 have H : (if a0_0 = a1 then (some (a0_1 == a2_0 && (a0_2 == a2_1))) else (some false)) = some r := h
 clear h
 by_cases c4 : a0_0 = a1
 ·rw [if_pos c4] at H
  have c4b0 : (a0_0 == a1) = true := beq_iff_eq.mpr c4
  have c4b1 : (a0_0 != a1) = false := bne_eq_false_iff_eq.mpr c4
  clear c4
  obtain rfl := Option.some.inj H
  go_enter Try.func58, Try.ntmps58
  go_wp2_with (first | ((with_reducible refine gate_dst (N := 3) rfl ?_); refine box_event ?hg (N := 3) ?hd (cs := #[.int .i64 a0_0, .int .i64 a0_1, .int .i64 a0_2, .int .i64 a0_3, .int .i64 a0_4, .int .i64 a0_5, .int .i64 a0_6]) (t := 67) ?hr ?_; (case hd => rfl); (case hg => rfl); (case hr => first | (go_simp; done) | (go_simp; rfl)); intro gb359 hg w5 hbox hb; have n0_ := Az_.mk (below_step (by repeat (first | (with_reducible first | exact HB.out | apply eA_ | apply pN_ | apply eD_) | exact HB.out)) hb); have n1_ := Az_.mk (hbox); have n2_ := Az_.mk ((by rw [hg]; exact (below_size (by repeat (first | (with_reducible first | exact HB.out | apply eA_ | apply pN_ | apply eD_) | exact HB.out))) : w.heap.size ≤ gb359)); have n3_ := Az_.mk ((by rw [hg]; exact (below_size (by repeat (first | (with_reducible first | exact HB.out | apply eA_ | apply pN_ | apply eD_) | exact HB.out))) : w.heap.size ≤ gb359)); clear HB; have HB := n0_; have BK359 := n1_; have GW359 := n2_; have GE359 := n3_; clear n0_ n1_ n2_ n3_; clear hb hbox hg) | ((with_reducible refine gate_dst (N := 5) rfl ?_); refine box_event ?hg (N := 5) ?hd (cs := #[.int .i64 a2_0, .int .i64 a2_1]) (t := 26) ?hr ?_; (case hd => rfl); (case hg => rfl); (case hr => first | (go_simp; done) | (go_simp; rfl)); intro gb360 hg w6 hbox hb; have n0_ := Az_.mk (bB_ (g := gb359) (o := .cells #[.int .i64 a0_0, .int .i64 a0_1, .int .i64 a0_2, .int .i64 a0_3, .int .i64 a0_4, .int .i64 a0_5, .int .i64 a0_6] 67 (0, 0)) (by (with_reducible repeat (first | refine bN_ ?_ _ | refine bD_ ?_ | refine bA_ ?_ _)); exact BK359.out) hb); have n1_ := Az_.mk (below_step (by repeat (first | (with_reducible first | exact HB.out | apply eA_ | apply pN_ | apply eD_ | refine eS_ ?_ GE359.out) | exact HB.out)) hb); have n2_ := Az_.mk (hbox); have n3_ := Az_.mk ((by rw [hg]; exact (below_size (by repeat (first | (with_reducible first | exact HB.out | apply eA_ | apply pN_ | apply eD_ | refine eS_ ?_ GE359.out) | exact HB.out))) : w.heap.size ≤ gb360)); have n4_ := Az_.mk ((by rw [hg]; exact (below_size (by repeat (first | (with_reducible first | exact HB.out | apply eA_ | apply pN_ | apply eD_ | refine eS_ ?_ GE359.out) | exact HB.out))) : w.heap.size ≤ gb360)); have n5_ := Az_.mk ((by rw [hg]; exact Nat.ne_of_lt (blk_lt (g := gb359) (o := .cells #[.int .i64 a0_0, .int .i64 a0_1, .int .i64 a0_2, .int .i64 a0_3, .int .i64 a0_4, .int .i64 a0_5, .int .i64 a0_6] 67 (0, 0)) (by (with_reducible repeat (first | refine bN_ ?_ _ | refine bD_ ?_ | refine bA_ ?_ _)); exact BK359.out)) : gb359 ≠ gb360)); have n6_ := Az_.mk ((by rw [hg]; exact Nat.ne_of_gt (blk_lt (g := gb359) (o := .cells #[.int .i64 a0_0, .int .i64 a0_1, .int .i64 a0_2, .int .i64 a0_3, .int .i64 a0_4, .int .i64 a0_5, .int .i64 a0_6] 67 (0, 0)) (by (with_reducible repeat (first | refine bN_ ?_ _ | refine bD_ ?_ | refine bA_ ?_ _)); exact BK359.out)) : gb360 ≠ gb359)); clear BK359; clear HB; have BK359 := n0_; have HB := n1_; have BK360 := n2_; have GW360 := n3_; have GE360 := n4_; have NB359_360 := n5_; have NB360_359 := n6_; clear n0_ n1_ n2_ n3_ n4_ n5_ n6_; clear hb hbox hg; have hnb7 := NB359_360.out; have hnc7 := NB360_359.out; have hcz8_0 : w6.cell? ⟨gb359, 0, none⟩ = some (.int .i64 a0_0) := (bC_ BK359.out 0).trans rfl; have hcz8_1 : w6.cell? ⟨gb359, 1, none⟩ = some (.int .i64 a0_1) := (bC_ BK359.out 1).trans rfl; have hcz8_2 : w6.cell? ⟨gb359, 2, none⟩ = some (.int .i64 a0_2) := (bC_ BK359.out 2).trans rfl; have hcz8_3 : w6.cell? ⟨gb359, 3, none⟩ = some (.int .i64 a0_3) := (bC_ BK359.out 3).trans rfl; have hcz8_4 : w6.cell? ⟨gb359, 4, none⟩ = some (.int .i64 a0_4) := (bC_ BK359.out 4).trans rfl; have hcz8_5 : w6.cell? ⟨gb359, 5, none⟩ = some (.int .i64 a0_5) := (bC_ BK359.out 5).trans rfl; have hcz8_6 : w6.cell? ⟨gb359, 6, none⟩ = some (.int .i64 a0_6) := (bC_ BK359.out 6).trans rfl; have hfz8_0 := bF_ BK359.out 0; have hfz8_1 := bF_ BK359.out 1; have hfz8_2 := bF_ BK359.out 2; have hfz8_3 := bF_ BK359.out 3; have hfz8_4 := bF_ BK359.out 4; have hfz8_5 := bF_ BK359.out 5; have hfz8_6 := bF_ BK359.out 6; have hcz9_0 : w6.cell? ⟨gb360, 0, none⟩ = some (.int .i64 a2_0) := (bC_ BK360.out 0).trans rfl; have hcz9_1 : w6.cell? ⟨gb360, 1, none⟩ = some (.int .i64 a2_1) := (bC_ BK360.out 1).trans rfl; have hfz9_0 := bF_ BK360.out 0; have hfz9_1 := bF_ BK360.out 1))
  go_ret
  exact ⟨by first | rfl | (simp [errW_none, errW_some] <;> rfl) | (simp [*, errW_none, errW_some] <;> rfl), by repeat (first | (with_reducible first | exact HB.out | apply eA_ | apply pN_ | apply eD_ | refine eS_ ?_ GE359.out | refine eS_ ?_ GE360.out) | exact HB.out)⟩
 ·rw [if_neg c4] at H
  have c4b0 : (a0_0 == a1) = false := beq_eq_false_iff_ne.mpr c4
  have c4b1 : (a0_0 != a1) = true := bne_iff_ne.mpr c4
  obtain rfl := Option.some.inj H
  go_enter Try.func58, Try.ntmps58
  go_wp2_with (first | ((with_reducible refine gate_dst (N := 3) rfl ?_); refine box_event ?hg (N := 3) ?hd (cs := #[.int .i64 a0_0, .int .i64 a0_1, .int .i64 a0_2, .int .i64 a0_3, .int .i64 a0_4, .int .i64 a0_5, .int .i64 a0_6]) (t := 67) ?hr ?_; (case hd => rfl); (case hg => rfl); (case hr => first | (go_simp; done) | (go_simp; rfl)); intro gb359 hg w10 hbox hb; have n0_ := Az_.mk (below_step (by repeat (first | (with_reducible first | exact HB.out | apply eA_ | apply pN_ | apply eD_) | exact HB.out)) hb); have n1_ := Az_.mk (hbox); have n2_ := Az_.mk ((by rw [hg]; exact (below_size (by repeat (first | (with_reducible first | exact HB.out | apply eA_ | apply pN_ | apply eD_) | exact HB.out))) : w.heap.size ≤ gb359)); have n3_ := Az_.mk ((by rw [hg]; exact (below_size (by repeat (first | (with_reducible first | exact HB.out | apply eA_ | apply pN_ | apply eD_) | exact HB.out))) : w.heap.size ≤ gb359)); clear HB; have HB := n0_; have BK359 := n1_; have GW359 := n2_; have GE359 := n3_; clear n0_ n1_ n2_ n3_; clear hb hbox hg) | ((with_reducible refine gate_dst (N := 5) rfl ?_); refine box_event ?hg (N := 5) ?hd (cs := #[.int .i64 a2_0, .int .i64 a2_1]) (t := 26) ?hr ?_; (case hd => rfl); (case hg => rfl); (case hr => first | (go_simp; done) | (go_simp; rfl)); intro gb360 hg w11 hbox hb; have n0_ := Az_.mk (bB_ (g := gb359) (o := .cells #[.int .i64 a0_0, .int .i64 a0_1, .int .i64 a0_2, .int .i64 a0_3, .int .i64 a0_4, .int .i64 a0_5, .int .i64 a0_6] 67 (0, 0)) (by (with_reducible repeat (first | refine bN_ ?_ _ | refine bD_ ?_ | refine bA_ ?_ _)); exact BK359.out) hb); have n1_ := Az_.mk (below_step (by repeat (first | (with_reducible first | exact HB.out | apply eA_ | apply pN_ | apply eD_ | refine eS_ ?_ GE359.out) | exact HB.out)) hb); have n2_ := Az_.mk (hbox); have n3_ := Az_.mk ((by rw [hg]; exact (below_size (by repeat (first | (with_reducible first | exact HB.out | apply eA_ | apply pN_ | apply eD_ | refine eS_ ?_ GE359.out) | exact HB.out))) : w.heap.size ≤ gb360)); have n4_ := Az_.mk ((by rw [hg]; exact (below_size (by repeat (first | (with_reducible first | exact HB.out | apply eA_ | apply pN_ | apply eD_ | refine eS_ ?_ GE359.out) | exact HB.out))) : w.heap.size ≤ gb360)); have n5_ := Az_.mk ((by rw [hg]; exact Nat.ne_of_lt (blk_lt (g := gb359) (o := .cells #[.int .i64 a0_0, .int .i64 a0_1, .int .i64 a0_2, .int .i64 a0_3, .int .i64 a0_4, .int .i64 a0_5, .int .i64 a0_6] 67 (0, 0)) (by (with_reducible repeat (first | refine bN_ ?_ _ | refine bD_ ?_ | refine bA_ ?_ _)); exact BK359.out)) : gb359 ≠ gb360)); have n6_ := Az_.mk ((by rw [hg]; exact Nat.ne_of_gt (blk_lt (g := gb359) (o := .cells #[.int .i64 a0_0, .int .i64 a0_1, .int .i64 a0_2, .int .i64 a0_3, .int .i64 a0_4, .int .i64 a0_5, .int .i64 a0_6] 67 (0, 0)) (by (with_reducible repeat (first | refine bN_ ?_ _ | refine bD_ ?_ | refine bA_ ?_ _)); exact BK359.out)) : gb360 ≠ gb359)); clear BK359; clear HB; have BK359 := n0_; have HB := n1_; have BK360 := n2_; have GW360 := n3_; have GE360 := n4_; have NB359_360 := n5_; have NB360_359 := n6_; clear n0_ n1_ n2_ n3_ n4_ n5_ n6_; clear hb hbox hg; have hnb12 := NB359_360.out; have hnc12 := NB360_359.out; have hcz13_0 : w11.cell? ⟨gb359, 0, none⟩ = some (.int .i64 a0_0) := (bC_ BK359.out 0).trans rfl; have hcz13_1 : w11.cell? ⟨gb359, 1, none⟩ = some (.int .i64 a0_1) := (bC_ BK359.out 1).trans rfl; have hcz13_2 : w11.cell? ⟨gb359, 2, none⟩ = some (.int .i64 a0_2) := (bC_ BK359.out 2).trans rfl; have hcz13_3 : w11.cell? ⟨gb359, 3, none⟩ = some (.int .i64 a0_3) := (bC_ BK359.out 3).trans rfl; have hcz13_4 : w11.cell? ⟨gb359, 4, none⟩ = some (.int .i64 a0_4) := (bC_ BK359.out 4).trans rfl; have hcz13_5 : w11.cell? ⟨gb359, 5, none⟩ = some (.int .i64 a0_5) := (bC_ BK359.out 5).trans rfl; have hcz13_6 : w11.cell? ⟨gb359, 6, none⟩ = some (.int .i64 a0_6) := (bC_ BK359.out 6).trans rfl; have hfz13_0 := bF_ BK359.out 0; have hfz13_1 := bF_ BK359.out 1; have hfz13_2 := bF_ BK359.out 2; have hfz13_3 := bF_ BK359.out 3; have hfz13_4 := bF_ BK359.out 4; have hfz13_5 := bF_ BK359.out 5; have hfz13_6 := bF_ BK359.out 6))
  go_ret
  exact ⟨by first | rfl | (simp [errW_none, errW_some] <;> rfl) | (simp [*, errW_none, errW_some] <;> rfl), by repeat (first | (with_reducible first | exact HB.out | apply eA_ | apply pN_ | apply eD_ | refine eS_ ?_ GE359.out | refine eS_ ?_ GE360.out) | exact HB.out)⟩

/-! ### impl_TabOut: function 42 -/
def impl_TabOut.l0 : Nat → Int → List (S67) → List (S67) → Int → Int → Int → Int → Option ((List (S67)))
 | 0, _, _, _, _, _, _, _ => none
 | k + 1, x1, x7, x10, x11, x12, x362000, x362001 => if x12 < x11 then (if 0 ≤ x12 then (if x12 < (x10.length : Int) then ((impl_TabRow_of.f ((rd_T67 x10 x12).f0) ((rd_T67 x10 x12).f1.f0) ((rd_T67 x10 x12).f1.f1) ((rd_T67 x10 x12).f2.f0) ((rd_T67 x10 x12).f2.f1) ((rd_T67 x10 x12).f2.f2) ((rd_T67 x10 x12).f2.f3) x1 x362000 x362001).bind fun t364 => (if t364 = true then (impl_TabOut.l0 k x1 x7 x10 x11 (wrap64 (x12 + 1)) x362000 x362001) else (if x7.length < 2513169434916 then (impl_TabOut.l0 k x1 (x7 ++ [(⟨(rd_T67 x10 x12).f0, (⟨(rd_T67 x10 x12).f1.f0, (rd_T67 x10 x12).f1.f1⟩ : S26), (⟨(rd_T67 x10 x12).f2.f0, (rd_T67 x10 x12).f2.f1, (rd_T67 x10 x12).f2.f2, (rd_T67 x10 x12).f2.f3⟩ : S34)⟩ : S67)]) x10 x11 (wrap64 (x12 + 1)) x362000 x362001) else (none)))) else (none)) else (none)) else (some x7)
def impl_TabOut.f (k : Nat) (l0 : List (S67)) (a1 : Int) (a2_0 : Int) (a2_1 : Int) : Option ((List (S67))) := impl_TabOut.l0 k a1 ([] : List (S67)) l0 (l0.length : Int) 0 a2_0 a2_1
theorem impl_TabOut.mono_l : ∀ k, (∀ y0 y1 y2 y3 y4 y5 y6, LeO (impl_TabOut.l0 k y0 y1 y2 y3 y4 y5 y6) (impl_TabOut.l0 (k + 1) y0 y1 y2 y3 y4 y5 y6))
 | 0 => fun _ _ _ _ _ _ _ r h => by simp [impl_TabOut.l0] at h
 | k + 1 => by
  have ih0 := impl_TabOut.mono_l k
  ·intro y0 y1 y2 y3 y4 y5 y6
   unfold impl_TabOut.l0
   repeat' first
   | (with_reducible exact ih0 _ _ _ _ _ _ _)
   | (with_reducible exact LeO.refl _)
   | (with_reducible exact LeO.none _)
   | (with_reducible refine LeO.ite ?_ ?_)
   | (with_reducible refine LeO.bind ?_ (fun _ => ?_))
   | exact ih0 _ _ _ _ _ _ _
   | exact LeO.none _
   | refine LeO.ite ?_ ?_
   | refine LeO.bind ?_ (fun _ => ?_)
theorem impl_TabOut.mono : ∀ a0 a1 a2 a3 k, LeO (impl_TabOut.f k a0 a1 a2 a3) (impl_TabOut.f (k + 1) a0 a1 a2 a3) := by
 intro a0 a1 a2 a3 k
 have ih0 := impl_TabOut.mono_l k
 unfold impl_TabOut.f
 repeat' first
   | (with_reducible exact ih0 _ _ _ _ _ _ _)
   | (with_reducible exact LeO.refl _)
   | (with_reducible exact LeO.none _)
   | (with_reducible refine LeO.ite ?_ ?_)
   | (with_reducible refine LeO.bind ?_ (fun _ => ?_))
   | exact ih0 _ _ _ _ _ _ _
   | exact LeO.none _
   | refine LeO.ite ?_ ?_
   | refine LeO.bind ?_ (fun _ => ?_)
set_option maxHeartbeats 8000000 in
set_option maxRecDepth 100000 in
theorem impl_TabOut.calls (k : Nat) (A0 : Option Addr) (c0 : Nat) (l0 : List (S67)) (a1 : Int) (a2_0 : Int) (a2_1 : Int) (r : List (S67)) (w : World) (hr0 : Kd.C k67 w A0 l0.length l0) (hc0 : l0.length ≤ c0) (h : impl_TabOut.f k l0 a1 a2_0 a2_1 = some r) :
  Calls Try.prog 42 #[.slice A0 l0.length c0, .int .i64 a1, .agg #[.int .i64 a2_0, .int .i64 a2_1]] w fun e w' => ∃ v0_ : Value, e = .returned (v0_) ∧ Kd.R k67 67 w' w.heap.size (fun _ => True) v0_ r ∧ Below w.heap.size w w' := by
 have hu26 := Try.underlying26
 have hu67 := Try.underlying67
 have HR0 := Az_.mk hr0
 have HC0 := Az_.mk hc0
 clear hr0 hc0
 have HB := Az_.mk (Below.refl w.heap.size w)
 have H : (impl_TabOut.l0 k a1 ([] : List (S67)) l0 (l0.length : Int) 0 a2_0 a2_1) = some r := h
 clear h
 have H' := Az_.mk H
 clear H
 go_enter Try.func42, Try.ntmps42
 go_wp2_with (first | ((with_reducible refine gate_dst (N := 5) rfl ?_); refine box_event ?hg (N := 5) ?hd (cs := #[.int .i64 a2_0, .int .i64 a2_1]) (t := 26) ?hr ?_; (case hd => rfl); (case hg => rfl); (case hr => first | (go_simp; done) | (go_simp; rfl)); intro gb361 hg w4 hbox hb; have n0_ := Az_.mk (below_step (by repeat (first | (with_reducible first | exact HB.out | apply eA_ | apply pN_ | apply eD_) | exact HB.out)) hb); have n1_ := Az_.mk (hbox); have n2_ := Az_.mk ((by rw [hg]; exact (below_size (by repeat (first | (with_reducible first | exact HB.out | apply eA_ | apply pN_ | apply eD_) | exact HB.out))) : w.heap.size ≤ gb361)); have n3_ := Az_.mk ((by rw [hg]; exact (below_size (by repeat (first | (with_reducible first | exact HB.out | apply eA_ | apply pN_ | apply eD_) | exact HB.out))) : w.heap.size ≤ gb361)); clear HB; have HB := n0_; have BK361 := n1_; have GW361 := n2_; have GE361 := n3_; clear n0_ n1_ n2_ n3_; clear hb hbox hg))
 go_loopg [7, 12] k (fun kq v7 v12 w' => ∃ (x7_1 : List (S67)) (x12_1 : Int), v12 = .int .i64 x12_1 ∧ Az_ (impl_TabOut.l0 kq a1 x7_1 l0 (l0.length : Int) x12_1 a2_0 a2_1 = some r) ∧ Az_ (kq ≤ k) ∧ Az_ (Kd.R k67 67 w' w.heap.size (fun _ => True) v7 x7_1) ∧ Az_ (w'.heap[gb361]? = some (.cells #[.int .i64 a2_0, .int .i64 a2_1] 26 (0, 0))) ∧ Az_ (Below w.heap.size w w'))
 case atStart => exact ⟨(([] : List (S67))), (0), (by first | rfl | (simp; done) | (simp [*]; done)), H', ⟨Nat.le_refl _⟩, ⟨by first | exact Kd.R_nil _ _ _ _ _ | exact Kd.N_nil _ _ _ _ _ | exact Kd.V_nil _ _ _ _ _ | exact Kd.Q_nil _ _ _ _ _ | exact Kd.S_nil _ _ _ _ _⟩, ⟨by (with_reducible repeat (first | refine bN_ ?_ _ | refine bD_ ?_ | refine bA_ ?_ _)); exact BK361.out⟩, ⟨by repeat (first | (with_reducible first | exact HB.out | apply eA_ | apply pN_ | apply eD_ | refine eS_ ?_ GE361.out) | exact HB.out)⟩⟩
 case round =>
  clear H'
  try clear p2
  try clear c4
  obtain ⟨x7_1, x12_1, rfl, HA, HK1, HO_7, BK361, HB⟩ := hrel
  cases gk with
  | zero => exact absurd HA.out (by simp [impl_TabOut.l0])
  | succ k1 =>
   have H := HA.out
   clear HA
   simp only [impl_TabOut.l0] at H
   by_cases c5 : x12_1 < (l0.length : Int)
   ·rw [if_pos c5] at H
    have c5b0 : decide (x12_1 < (l0.length : Int)) = true := decide_eq_true c5
    clear c5
    by_cases c6 : 0 ≤ x12_1
    ·rw [if_pos c6] at H
     have c6b0 : decide (0 ≤ x12_1) = true := decide_eq_true c6
     clear c6
     by_cases c7 : x12_1 < (l0.length : Int)
     ·rw [if_pos c7] at H
      have c7b0 : decide (x12_1 < (l0.length : Int)) = true := decide_eq_true c7
      clear c7
      replace H := Option.bind_eq_some_iff.mp H
      obtain ⟨t364, A80, H⟩ := H
      replace H : (if t364 = true then (impl_TabOut.l0 k1 a1 x7_1 l0 (l0.length : Int) (wrap64 (x12_1 + 1)) a2_0 a2_1) else (if x7_1.length < 2513169434916 then (impl_TabOut.l0 k1 a1 (x7_1 ++ [(⟨(rd_T67 l0 x12_1).f0, (⟨(rd_T67 l0 x12_1).f1.f0, (rd_T67 l0 x12_1).f1.f1⟩ : S26), (⟨(rd_T67 l0 x12_1).f2.f0, (rd_T67 l0 x12_1).f2.f1, (rd_T67 l0 x12_1).f2.f2, (rd_T67 l0 x12_1).f2.f3⟩ : S34)⟩ : S67)]) l0 (l0.length : Int) (wrap64 (x12_1 + 1)) a2_0 a2_1) else (none))) = some r := H
      have A8 := Az_.mk A80
      clear A80
      by_cases c9 : t364 = true
      ·subst c9
       have H1 : (impl_TabOut.l0 k1 a1 x7_1 l0 (l0.length : Int) (wrap64 (x12_1 + 1)) a2_0 a2_1) = some r := by rw [if_pos rfl] at H; exact H
       clear H
       have H := H1
       clear H1
       have H' := Az_.mk H
       clear H
       have p362 : 0 ≤ (x12_1 : Int) := of_decide_eq_true (by first | (with_reducible assumption) | assumption)
       have q362 : x12_1 < (l0.length : Int) := of_decide_eq_true (by first | (with_reducible assumption) | assumption)
       obtain ⟨ad362, e362, hx362_0, hx362_1, hx362_2, hx362_3, hx362_4, hx362_5, hx362_6⟩ := at_T67 HR0.out x12_1 p362 q362
       cases e362
       replace hx362_0 := (HB.out.cell (World.block_lt_of_cell? w _ hx362_0)).trans hx362_0
       replace hx362_1 := (HB.out.cell (World.block_lt_of_cell? w _ hx362_1)).trans hx362_1
       replace hx362_2 := (HB.out.cell (World.block_lt_of_cell? w _ hx362_2)).trans hx362_2
       replace hx362_3 := (HB.out.cell (World.block_lt_of_cell? w _ hx362_3)).trans hx362_3
       replace hx362_4 := (HB.out.cell (World.block_lt_of_cell? w _ hx362_4)).trans hx362_4
       replace hx362_5 := (HB.out.cell (World.block_lt_of_cell? w _ hx362_5)).trans hx362_5
       replace hx362_6 := (HB.out.cell (World.block_lt_of_cell? w _ hx362_6)).trans hx362_6
       replace p362 := eq_true p362
       replace q362 := eq_true q362
       go_wp2_with (first | ((with_reducible refine gate_dst (N := 9) rfl ?_); refine box_event ?hg (N := 9) ?hd (cs := #[.int .i64 0, .int .i64 0, .int .i64 0, .int .i64 0, .int .i64 0, .int .i64 0, .int .i64 0]) (t := 67) ?hr ?_; (case hd => rfl); (case hg => rfl); (case hr => first | (go_simp; done) | (go_simp; rfl)); intro gb363 hg w10 hbox hb; have n0_ := Az_.mk (Kd.R_below (Kd.R_elderB (by (with_reducible repeat (first | apply Kd.R_alloc | apply Kd.R_drewN | apply Kd.R_drew)); exact HO_7.out) gb363 (Nat.le_of_eq hg.symm)) hb); have n1_ := Az_.mk (bB_ (g := gb361) (o := .cells #[.int .i64 a2_0, .int .i64 a2_1] 26 (0, 0)) (by (with_reducible repeat (first | refine bN_ ?_ _ | refine bD_ ?_ | refine bA_ ?_ _)); exact BK361.out) hb); have n2_ := Az_.mk (below_step (by repeat (first | (with_reducible first | exact HB.out | apply eA_ | apply pN_ | apply eD_ | refine eS_ ?_ GE361.out) | exact HB.out)) hb); have n3_ := Az_.mk (hbox); have n4_ := Az_.mk ((by rw [hg]; exact (below_size (by repeat (first | (with_reducible first | exact HB.out | apply eA_ | apply pN_ | apply eD_ | refine eS_ ?_ GE361.out) | exact HB.out))) : w.heap.size ≤ gb363)); have n5_ := Az_.mk ((by rw [hg]; exact (below_size (by repeat (first | (with_reducible first | exact HB.out | apply eA_ | apply pN_ | apply eD_ | refine eS_ ?_ GE361.out) | exact HB.out))) : w.heap.size ≤ gb363)); have n6_ := Az_.mk ((by rw [hg]; exact Nat.ne_of_lt (blk_lt (g := gb361) (o := .cells #[.int .i64 a2_0, .int .i64 a2_1] 26 (0, 0)) (by (with_reducible repeat (first | refine bN_ ?_ _ | refine bD_ ?_ | refine bA_ ?_ _)); exact BK361.out)) : gb361 ≠ gb363)); have n7_ := Az_.mk ((by rw [hg]; exact Nat.ne_of_gt (blk_lt (g := gb361) (o := .cells #[.int .i64 a2_0, .int .i64 a2_1] 26 (0, 0)) (by (with_reducible repeat (first | refine bN_ ?_ _ | refine bD_ ?_ | refine bA_ ?_ _)); exact BK361.out)) : gb363 ≠ gb361)); clear HO_7; clear BK361; clear HB; have HO_7 := n0_; have BK361 := n1_; have HB := n2_; have BK363 := n3_; have GW363 := n4_; have GE363 := n5_; have NB361_363 := n6_; have NB363_361 := n7_; clear n0_ n1_ n2_ n3_ n4_ n5_ n6_ n7_; clear hb hbox hg; have hnb11 := NB363_361.out; have hnc11 := NB361_363.out; have hcz12_0 : w10.cell? ⟨gb363, 0, none⟩ = some (.int .i64 0) := (bC_ BK363.out 0).trans rfl; have hcz12_1 : w10.cell? ⟨gb363, 1, none⟩ = some (.int .i64 0) := (bC_ BK363.out 1).trans rfl; have hcz12_2 : w10.cell? ⟨gb363, 2, none⟩ = some (.int .i64 0) := (bC_ BK363.out 2).trans rfl; have hcz12_3 : w10.cell? ⟨gb363, 3, none⟩ = some (.int .i64 0) := (bC_ BK363.out 3).trans rfl; have hcz12_4 : w10.cell? ⟨gb363, 4, none⟩ = some (.int .i64 0) := (bC_ BK363.out 4).trans rfl; have hcz12_5 : w10.cell? ⟨gb363, 5, none⟩ = some (.int .i64 0) := (bC_ BK363.out 5).trans rfl; have hcz12_6 : w10.cell? ⟨gb363, 6, none⟩ = some (.int .i64 0) := (bC_ BK363.out 6).trans rfl; have hfz12_0 := bF_ BK363.out 0; have hfz12_1 := bF_ BK363.out 1; have hfz12_2 := bF_ BK363.out 2; have hfz12_3 := bF_ BK363.out 3; have hfz12_4 := bF_ BK363.out 4; have hfz12_5 := bF_ BK363.out 5; have hfz12_6 := bF_ BK363.out 6; have hcz13_0 : w10.cell? ⟨gb361, 0, none⟩ = some (.int .i64 a2_0) := (bC_ BK361.out 0).trans rfl; have hcz13_1 : w10.cell? ⟨gb361, 1, none⟩ = some (.int .i64 a2_1) := (bC_ BK361.out 1).trans rfl; have hfz13_0 := bF_ BK361.out 0; have hfz13_1 := bF_ BK361.out 1) | ((with_reducible refine gate_callee (f := 58) rfl ?_); refine goesL_ (some 19) rfl rfl Try.func58 (by kernel_rfl) rfl #[.agg #[.int .i64 ((rd_T67 l0 x12_1).f0), .int .i64 ((rd_T67 l0 x12_1).f1.f0), .int .i64 ((rd_T67 l0 x12_1).f1.f1), .int .i64 ((rd_T67 l0 x12_1).f2.f0), .int .i64 ((rd_T67 l0 x12_1).f2.f1), .int .i64 ((rd_T67 l0 x12_1).f2.f2), .int .i64 ((rd_T67 l0 x12_1).f2.f3)], .int .i64 a1, .agg #[.int .i64 a2_0, .int .i64 a2_1]] rfl (by (try simp only [List.map_toArray, List.map_cons, List.map_nil]); first | done | rfl | (simp only [List.length_drop, List.length_take]; rfl)) ?_; (with_reducible refine (impl_TabRow_of.calls ((rd_T67 l0 x12_1).f0) ((rd_T67 l0 x12_1).f1.f0) ((rd_T67 l0 x12_1).f1.f1) ((rd_T67 l0 x12_1).f2.f0) ((rd_T67 l0 x12_1).f2.f1) ((rd_T67 l0 x12_1).f2.f2) ((rd_T67 l0 x12_1).f2.f3) a1 a2_0 a2_1 true _ A8.out).mono ?_); rintro e w14 ⟨rfl, hb⟩; refine ⟨_, rfl, ?_⟩; have n0_ := Az_.mk (Kd.R_below (by (with_reducible repeat (first | apply Kd.R_alloc | apply Kd.R_drewN | apply Kd.R_drew)); exact (Kd.R_mono (Kd.R_far (p := ⟨gb363, 6, none⟩) (Kd.R_far (p := ⟨gb363, 5, none⟩) (Kd.R_far (p := ⟨gb363, 4, none⟩) (Kd.R_far (p := ⟨gb363, 3, none⟩) (Kd.R_far (p := ⟨gb363, 2, none⟩) (Kd.R_far (p := ⟨gb363, 1, none⟩) (Kd.R_far (p := ⟨gb363, 0, none⟩) (Kd.R_mono HO_7.out (fun k_ hk => (⟨hk, hk.2⟩ : _ ∧ k_ ≠ gb363))) (fun _ hk => hk.2) (.int .i64 ((rd_T67 l0 x12_1).f0))) (fun _ hk => hk.2) (.int .i64 ((rd_T67 l0 x12_1).f1.f0))) (fun _ hk => hk.2) (.int .i64 ((rd_T67 l0 x12_1).f1.f1))) (fun _ hk => hk.2) (.int .i64 ((rd_T67 l0 x12_1).f2.f0))) (fun _ hk => hk.2) (.int .i64 ((rd_T67 l0 x12_1).f2.f1))) (fun _ hk => hk.2) (.int .i64 ((rd_T67 l0 x12_1).f2.f2))) (fun _ hk => hk.2) (.int .i64 ((rd_T67 l0 x12_1).f2.f3))) (fun _ h_ => h_.1))) hb); have n1_ := Az_.mk (bB_ (g := gb361) (o := .cells #[.int .i64 a2_0, .int .i64 a2_1] 26 (0, 0)) (by (with_reducible repeat (first | refine bN_ ?_ _ | refine bD_ ?_ | refine bA_ ?_ _)); refine bR_ ?_ NB361_363.out _; (with_reducible repeat (first | refine bN_ ?_ _ | refine bD_ ?_ | refine bA_ ?_ _)); refine bR_ ?_ NB361_363.out _; (with_reducible repeat (first | refine bN_ ?_ _ | refine bD_ ?_ | refine bA_ ?_ _)); refine bR_ ?_ NB361_363.out _; (with_reducible repeat (first | refine bN_ ?_ _ | refine bD_ ?_ | refine bA_ ?_ _)); refine bR_ ?_ NB361_363.out _; (with_reducible repeat (first | refine bN_ ?_ _ | refine bD_ ?_ | refine bA_ ?_ _)); refine bR_ ?_ NB361_363.out _; (with_reducible repeat (first | refine bN_ ?_ _ | refine bD_ ?_ | refine bA_ ?_ _)); refine bR_ ?_ NB361_363.out _; (with_reducible repeat (first | refine bN_ ?_ _ | refine bD_ ?_ | refine bA_ ?_ _)); refine bR_ ?_ NB361_363.out _; (with_reducible repeat (first | refine bN_ ?_ _ | refine bD_ ?_ | refine bA_ ?_ _)); exact BK361.out) hb); have n2_ := Az_.mk (bB_ (g := gb363) (o := .cells #[.int .i64 ((rd_T67 l0 x12_1).f0), .int .i64 ((rd_T67 l0 x12_1).f1.f0), .int .i64 ((rd_T67 l0 x12_1).f1.f1), .int .i64 ((rd_T67 l0 x12_1).f2.f0), .int .i64 ((rd_T67 l0 x12_1).f2.f1), .int .i64 ((rd_T67 l0 x12_1).f2.f2), .int .i64 ((rd_T67 l0 x12_1).f2.f3)] 67 (0, 0)) (by (with_reducible repeat (first | refine bN_ ?_ _ | refine bD_ ?_ | refine bA_ ?_ _)); refine bP_ (cs := #[.int .i64 ((rd_T67 l0 x12_1).f0), .int .i64 ((rd_T67 l0 x12_1).f1.f0), .int .i64 ((rd_T67 l0 x12_1).f1.f1), .int .i64 ((rd_T67 l0 x12_1).f2.f0), .int .i64 ((rd_T67 l0 x12_1).f2.f1), .int .i64 ((rd_T67 l0 x12_1).f2.f2), .int .i64 0]) ?_ 6 _ rfl; (with_reducible repeat (first | refine bN_ ?_ _ | refine bD_ ?_ | refine bA_ ?_ _)); refine bP_ (cs := #[.int .i64 ((rd_T67 l0 x12_1).f0), .int .i64 ((rd_T67 l0 x12_1).f1.f0), .int .i64 ((rd_T67 l0 x12_1).f1.f1), .int .i64 ((rd_T67 l0 x12_1).f2.f0), .int .i64 ((rd_T67 l0 x12_1).f2.f1), .int .i64 0, .int .i64 0]) ?_ 5 _ rfl; (with_reducible repeat (first | refine bN_ ?_ _ | refine bD_ ?_ | refine bA_ ?_ _)); refine bP_ (cs := #[.int .i64 ((rd_T67 l0 x12_1).f0), .int .i64 ((rd_T67 l0 x12_1).f1.f0), .int .i64 ((rd_T67 l0 x12_1).f1.f1), .int .i64 ((rd_T67 l0 x12_1).f2.f0), .int .i64 0, .int .i64 0, .int .i64 0]) ?_ 4 _ rfl; (with_reducible repeat (first | refine bN_ ?_ _ | refine bD_ ?_ | refine bA_ ?_ _)); refine bP_ (cs := #[.int .i64 ((rd_T67 l0 x12_1).f0), .int .i64 ((rd_T67 l0 x12_1).f1.f0), .int .i64 ((rd_T67 l0 x12_1).f1.f1), .int .i64 0, .int .i64 0, .int .i64 0, .int .i64 0]) ?_ 3 _ rfl; (with_reducible repeat (first | refine bN_ ?_ _ | refine bD_ ?_ | refine bA_ ?_ _)); refine bP_ (cs := #[.int .i64 ((rd_T67 l0 x12_1).f0), .int .i64 ((rd_T67 l0 x12_1).f1.f0), .int .i64 0, .int .i64 0, .int .i64 0, .int .i64 0, .int .i64 0]) ?_ 2 _ rfl; (with_reducible repeat (first | refine bN_ ?_ _ | refine bD_ ?_ | refine bA_ ?_ _)); refine bP_ (cs := #[.int .i64 ((rd_T67 l0 x12_1).f0), .int .i64 0, .int .i64 0, .int .i64 0, .int .i64 0, .int .i64 0, .int .i64 0]) ?_ 1 _ rfl; (with_reducible repeat (first | refine bN_ ?_ _ | refine bD_ ?_ | refine bA_ ?_ _)); refine bP_ (cs := #[.int .i64 0, .int .i64 0, .int .i64 0, .int .i64 0, .int .i64 0, .int .i64 0, .int .i64 0]) ?_ 0 _ rfl; (with_reducible repeat (first | refine bN_ ?_ _ | refine bD_ ?_ | refine bA_ ?_ _)); exact BK363.out) hb); have n3_ := Az_.mk (below_step (by repeat (first | (with_reducible first | exact HB.out | apply eA_ | apply pN_ | apply eD_ | refine eS_ ?_ GE361.out | refine eS_ ?_ GE363.out) | exact HB.out)) hb); clear HO_7; clear BK361; clear BK363; clear HB; have HO_7 := n0_; have BK361 := n1_; have BK363 := n2_; have HB := n3_; clear n0_ n1_ n2_ n3_; (try clear hb); (try clear hb2); (try clear hk); (try clear hi)))
       go_roundg k1
       case measure => have := HK1.out; omega
       case rel => exact ⟨(x7_1), (wrap64 (x12_1 + 1)), (by first | rfl | (simp; done) | (simp [*]; done)), H', ⟨by have := HK1.out; omega⟩, ⟨by (with_reducible repeat (first | apply Kd.R_alloc | apply Kd.R_drewN | apply Kd.R_drew)); exact Kd.R_mono HO_7.out (fun _ hk => trivial)⟩, ⟨by (with_reducible repeat (first | refine bN_ ?_ _ | refine bD_ ?_ | refine bA_ ?_ _)); exact BK361.out⟩, ⟨by repeat (first | (with_reducible first | exact HB.out | apply eA_ | apply pN_ | apply eD_ | refine eS_ ?_ GE361.out | refine eS_ ?_ GE363.out) | exact HB.out)⟩⟩
      ·replace c9 := Bool.eq_false_iff.mpr c9
       subst c9
       have H1 : (if x7_1.length < 2513169434916 then (impl_TabOut.l0 k1 a1 (x7_1 ++ [(⟨(rd_T67 l0 x12_1).f0, (⟨(rd_T67 l0 x12_1).f1.f0, (rd_T67 l0 x12_1).f1.f1⟩ : S26), (⟨(rd_T67 l0 x12_1).f2.f0, (rd_T67 l0 x12_1).f2.f1, (rd_T67 l0 x12_1).f2.f2, (rd_T67 l0 x12_1).f2.f3⟩ : S34)⟩ : S67)]) l0 (l0.length : Int) (wrap64 (x12_1 + 1)) a2_0 a2_1) else (none)) = some r := by rw [if_neg (show ¬ (false = true) by decide)] at H; exact H
       clear H
       have H := H1
       clear H1
       by_cases c15 : x7_1.length < 2513169434916
       ·rw [if_pos c15] at H
        have LMc15 := Az_.mk c15
        clear c15
        obtain ⟨y365, hy365⟩ : ∃ y_ : List (S67), y_ = (x7_1 ++ [(⟨(rd_T67 l0 x12_1).f0, (⟨(rd_T67 l0 x12_1).f1.f0, (rd_T67 l0 x12_1).f1.f1⟩ : S26), (⟨(rd_T67 l0 x12_1).f2.f0, (rd_T67 l0 x12_1).f2.f1, (rd_T67 l0 x12_1).f2.f2, (rd_T67 l0 x12_1).f2.f3⟩ : S34)⟩ : S67)]) := ⟨_, rfl⟩
        replace H : (impl_TabOut.l0 k1 a1 y365 l0 (l0.length : Int) (wrap64 (x12_1 + 1)) a2_0 a2_1) = some r := by first | (rw [hy365]; with_reducible exact H) | (have H2_ := (Option.bind_some _ _).symm.trans H; rw [hy365]; with_reducible exact H2_) | (have H2_ := (Option.bind_some _ _).symm.trans H; with_reducible exact H2_) | with_reducible exact H | (rw [hy365]; exact H) | exact H
        have Ny365 := Az_.mk hy365
        clear hy365
        have H' := Az_.mk H
        clear H
        have p362 : 0 ≤ (x12_1 : Int) := of_decide_eq_true (by first | (with_reducible assumption) | assumption)
        have q362 : x12_1 < (l0.length : Int) := of_decide_eq_true (by first | (with_reducible assumption) | assumption)
        obtain ⟨ad362, e362, hx362_0, hx362_1, hx362_2, hx362_3, hx362_4, hx362_5, hx362_6⟩ := at_T67 HR0.out x12_1 p362 q362
        cases e362
        replace hx362_0 := (HB.out.cell (World.block_lt_of_cell? w _ hx362_0)).trans hx362_0
        replace hx362_1 := (HB.out.cell (World.block_lt_of_cell? w _ hx362_1)).trans hx362_1
        replace hx362_2 := (HB.out.cell (World.block_lt_of_cell? w _ hx362_2)).trans hx362_2
        replace hx362_3 := (HB.out.cell (World.block_lt_of_cell? w _ hx362_3)).trans hx362_3
        replace hx362_4 := (HB.out.cell (World.block_lt_of_cell? w _ hx362_4)).trans hx362_4
        replace hx362_5 := (HB.out.cell (World.block_lt_of_cell? w _ hx362_5)).trans hx362_5
        replace hx362_6 := (HB.out.cell (World.block_lt_of_cell? w _ hx362_6)).trans hx362_6
        replace p362 := eq_true p362
        replace q362 := eq_true q362
        go_wp2_with (first | ((with_reducible refine gate_dst (N := 9) rfl ?_); refine box_event ?hg (N := 9) ?hd (cs := #[.int .i64 0, .int .i64 0, .int .i64 0, .int .i64 0, .int .i64 0, .int .i64 0, .int .i64 0]) (t := 67) ?hr ?_; (case hd => rfl); (case hg => rfl); (case hr => first | (go_simp; done) | (go_simp; rfl)); intro gb363 hg w16 hbox hb; have n0_ := Az_.mk (Kd.R_below (Kd.R_elderB (by (with_reducible repeat (first | apply Kd.R_alloc | apply Kd.R_drewN | apply Kd.R_drew)); exact HO_7.out) gb363 (Nat.le_of_eq hg.symm)) hb); have n1_ := Az_.mk (bB_ (g := gb361) (o := .cells #[.int .i64 a2_0, .int .i64 a2_1] 26 (0, 0)) (by (with_reducible repeat (first | refine bN_ ?_ _ | refine bD_ ?_ | refine bA_ ?_ _)); exact BK361.out) hb); have n2_ := Az_.mk (below_step (by repeat (first | (with_reducible first | exact HB.out | apply eA_ | apply pN_ | apply eD_ | refine eS_ ?_ GE361.out) | exact HB.out)) hb); have n3_ := Az_.mk (hbox); have n4_ := Az_.mk ((by rw [hg]; exact (below_size (by repeat (first | (with_reducible first | exact HB.out | apply eA_ | apply pN_ | apply eD_ | refine eS_ ?_ GE361.out) | exact HB.out))) : w.heap.size ≤ gb363)); have n5_ := Az_.mk ((by rw [hg]; exact (below_size (by repeat (first | (with_reducible first | exact HB.out | apply eA_ | apply pN_ | apply eD_ | refine eS_ ?_ GE361.out) | exact HB.out))) : w.heap.size ≤ gb363)); have n6_ := Az_.mk ((by rw [hg]; exact Nat.ne_of_lt (blk_lt (g := gb361) (o := .cells #[.int .i64 a2_0, .int .i64 a2_1] 26 (0, 0)) (by (with_reducible repeat (first | refine bN_ ?_ _ | refine bD_ ?_ | refine bA_ ?_ _)); exact BK361.out)) : gb361 ≠ gb363)); have n7_ := Az_.mk ((by rw [hg]; exact Nat.ne_of_gt (blk_lt (g := gb361) (o := .cells #[.int .i64 a2_0, .int .i64 a2_1] 26 (0, 0)) (by (with_reducible repeat (first | refine bN_ ?_ _ | refine bD_ ?_ | refine bA_ ?_ _)); exact BK361.out)) : gb363 ≠ gb361)); clear HO_7; clear BK361; clear HB; have HO_7 := n0_; have BK361 := n1_; have HB := n2_; have BK363 := n3_; have GW363 := n4_; have GE363 := n5_; have NB361_363 := n6_; have NB363_361 := n7_; clear n0_ n1_ n2_ n3_ n4_ n5_ n6_ n7_; clear hb hbox hg; have hnb17 := NB363_361.out; have hnc17 := NB361_363.out; have hcz18_0 : w16.cell? ⟨gb363, 0, none⟩ = some (.int .i64 0) := (bC_ BK363.out 0).trans rfl; have hcz18_1 : w16.cell? ⟨gb363, 1, none⟩ = some (.int .i64 0) := (bC_ BK363.out 1).trans rfl; have hcz18_2 : w16.cell? ⟨gb363, 2, none⟩ = some (.int .i64 0) := (bC_ BK363.out 2).trans rfl; have hcz18_3 : w16.cell? ⟨gb363, 3, none⟩ = some (.int .i64 0) := (bC_ BK363.out 3).trans rfl; have hcz18_4 : w16.cell? ⟨gb363, 4, none⟩ = some (.int .i64 0) := (bC_ BK363.out 4).trans rfl; have hcz18_5 : w16.cell? ⟨gb363, 5, none⟩ = some (.int .i64 0) := (bC_ BK363.out 5).trans rfl; have hcz18_6 : w16.cell? ⟨gb363, 6, none⟩ = some (.int .i64 0) := (bC_ BK363.out 6).trans rfl; have hfz18_0 := bF_ BK363.out 0; have hfz18_1 := bF_ BK363.out 1; have hfz18_2 := bF_ BK363.out 2; have hfz18_3 := bF_ BK363.out 3; have hfz18_4 := bF_ BK363.out 4; have hfz18_5 := bF_ BK363.out 5; have hfz18_6 := bF_ BK363.out 6; have hcz19_0 : w16.cell? ⟨gb361, 0, none⟩ = some (.int .i64 a2_0) := (bC_ BK361.out 0).trans rfl; have hcz19_1 : w16.cell? ⟨gb361, 1, none⟩ = some (.int .i64 a2_1) := (bC_ BK361.out 1).trans rfl; have hfz19_0 := bF_ BK361.out 0; have hfz19_1 := bF_ BK361.out 1) | ((with_reducible refine gate_callee (f := 58) rfl ?_); refine goesL_ (some 19) rfl rfl Try.func58 (by kernel_rfl) rfl #[.agg #[.int .i64 ((rd_T67 l0 x12_1).f0), .int .i64 ((rd_T67 l0 x12_1).f1.f0), .int .i64 ((rd_T67 l0 x12_1).f1.f1), .int .i64 ((rd_T67 l0 x12_1).f2.f0), .int .i64 ((rd_T67 l0 x12_1).f2.f1), .int .i64 ((rd_T67 l0 x12_1).f2.f2), .int .i64 ((rd_T67 l0 x12_1).f2.f3)], .int .i64 a1, .agg #[.int .i64 a2_0, .int .i64 a2_1]] rfl (by (try simp only [List.map_toArray, List.map_cons, List.map_nil]); first | done | rfl | (simp only [List.length_drop, List.length_take]; rfl)) ?_; (with_reducible refine (impl_TabRow_of.calls ((rd_T67 l0 x12_1).f0) ((rd_T67 l0 x12_1).f1.f0) ((rd_T67 l0 x12_1).f1.f1) ((rd_T67 l0 x12_1).f2.f0) ((rd_T67 l0 x12_1).f2.f1) ((rd_T67 l0 x12_1).f2.f2) ((rd_T67 l0 x12_1).f2.f3) a1 a2_0 a2_1 false _ A8.out).mono ?_); rintro e w20 ⟨rfl, hb⟩; refine ⟨_, rfl, ?_⟩; have n0_ := Az_.mk (Kd.R_below (by (with_reducible repeat (first | apply Kd.R_alloc | apply Kd.R_drewN | apply Kd.R_drew)); exact (Kd.R_mono (Kd.R_far (p := ⟨gb363, 6, none⟩) (Kd.R_far (p := ⟨gb363, 5, none⟩) (Kd.R_far (p := ⟨gb363, 4, none⟩) (Kd.R_far (p := ⟨gb363, 3, none⟩) (Kd.R_far (p := ⟨gb363, 2, none⟩) (Kd.R_far (p := ⟨gb363, 1, none⟩) (Kd.R_far (p := ⟨gb363, 0, none⟩) (Kd.R_mono HO_7.out (fun k_ hk => (⟨hk, hk.2⟩ : _ ∧ k_ ≠ gb363))) (fun _ hk => hk.2) (.int .i64 ((rd_T67 l0 x12_1).f0))) (fun _ hk => hk.2) (.int .i64 ((rd_T67 l0 x12_1).f1.f0))) (fun _ hk => hk.2) (.int .i64 ((rd_T67 l0 x12_1).f1.f1))) (fun _ hk => hk.2) (.int .i64 ((rd_T67 l0 x12_1).f2.f0))) (fun _ hk => hk.2) (.int .i64 ((rd_T67 l0 x12_1).f2.f1))) (fun _ hk => hk.2) (.int .i64 ((rd_T67 l0 x12_1).f2.f2))) (fun _ hk => hk.2) (.int .i64 ((rd_T67 l0 x12_1).f2.f3))) (fun _ h_ => h_.1))) hb); have n1_ := Az_.mk (bB_ (g := gb361) (o := .cells #[.int .i64 a2_0, .int .i64 a2_1] 26 (0, 0)) (by (with_reducible repeat (first | refine bN_ ?_ _ | refine bD_ ?_ | refine bA_ ?_ _)); refine bR_ ?_ NB361_363.out _; (with_reducible repeat (first | refine bN_ ?_ _ | refine bD_ ?_ | refine bA_ ?_ _)); refine bR_ ?_ NB361_363.out _; (with_reducible repeat (first | refine bN_ ?_ _ | refine bD_ ?_ | refine bA_ ?_ _)); refine bR_ ?_ NB361_363.out _; (with_reducible repeat (first | refine bN_ ?_ _ | refine bD_ ?_ | refine bA_ ?_ _)); refine bR_ ?_ NB361_363.out _; (with_reducible repeat (first | refine bN_ ?_ _ | refine bD_ ?_ | refine bA_ ?_ _)); refine bR_ ?_ NB361_363.out _; (with_reducible repeat (first | refine bN_ ?_ _ | refine bD_ ?_ | refine bA_ ?_ _)); refine bR_ ?_ NB361_363.out _; (with_reducible repeat (first | refine bN_ ?_ _ | refine bD_ ?_ | refine bA_ ?_ _)); refine bR_ ?_ NB361_363.out _; (with_reducible repeat (first | refine bN_ ?_ _ | refine bD_ ?_ | refine bA_ ?_ _)); exact BK361.out) hb); have n2_ := Az_.mk (bB_ (g := gb363) (o := .cells #[.int .i64 ((rd_T67 l0 x12_1).f0), .int .i64 ((rd_T67 l0 x12_1).f1.f0), .int .i64 ((rd_T67 l0 x12_1).f1.f1), .int .i64 ((rd_T67 l0 x12_1).f2.f0), .int .i64 ((rd_T67 l0 x12_1).f2.f1), .int .i64 ((rd_T67 l0 x12_1).f2.f2), .int .i64 ((rd_T67 l0 x12_1).f2.f3)] 67 (0, 0)) (by (with_reducible repeat (first | refine bN_ ?_ _ | refine bD_ ?_ | refine bA_ ?_ _)); refine bP_ (cs := #[.int .i64 ((rd_T67 l0 x12_1).f0), .int .i64 ((rd_T67 l0 x12_1).f1.f0), .int .i64 ((rd_T67 l0 x12_1).f1.f1), .int .i64 ((rd_T67 l0 x12_1).f2.f0), .int .i64 ((rd_T67 l0 x12_1).f2.f1), .int .i64 ((rd_T67 l0 x12_1).f2.f2), .int .i64 0]) ?_ 6 _ rfl; (with_reducible repeat (first | refine bN_ ?_ _ | refine bD_ ?_ | refine bA_ ?_ _)); refine bP_ (cs := #[.int .i64 ((rd_T67 l0 x12_1).f0), .int .i64 ((rd_T67 l0 x12_1).f1.f0), .int .i64 ((rd_T67 l0 x12_1).f1.f1), .int .i64 ((rd_T67 l0 x12_1).f2.f0), .int .i64 ((rd_T67 l0 x12_1).f2.f1), .int .i64 0, .int .i64 0]) ?_ 5 _ rfl; (with_reducible repeat (first | refine bN_ ?_ _ | refine bD_ ?_ | refine bA_ ?_ _)); refine bP_ (cs := #[.int .i64 ((rd_T67 l0 x12_1).f0), .int .i64 ((rd_T67 l0 x12_1).f1.f0), .int .i64 ((rd_T67 l0 x12_1).f1.f1), .int .i64 ((rd_T67 l0 x12_1).f2.f0), .int .i64 0, .int .i64 0, .int .i64 0]) ?_ 4 _ rfl; (with_reducible repeat (first | refine bN_ ?_ _ | refine bD_ ?_ | refine bA_ ?_ _)); refine bP_ (cs := #[.int .i64 ((rd_T67 l0 x12_1).f0), .int .i64 ((rd_T67 l0 x12_1).f1.f0), .int .i64 ((rd_T67 l0 x12_1).f1.f1), .int .i64 0, .int .i64 0, .int .i64 0, .int .i64 0]) ?_ 3 _ rfl; (with_reducible repeat (first | refine bN_ ?_ _ | refine bD_ ?_ | refine bA_ ?_ _)); refine bP_ (cs := #[.int .i64 ((rd_T67 l0 x12_1).f0), .int .i64 ((rd_T67 l0 x12_1).f1.f0), .int .i64 0, .int .i64 0, .int .i64 0, .int .i64 0, .int .i64 0]) ?_ 2 _ rfl; (with_reducible repeat (first | refine bN_ ?_ _ | refine bD_ ?_ | refine bA_ ?_ _)); refine bP_ (cs := #[.int .i64 ((rd_T67 l0 x12_1).f0), .int .i64 0, .int .i64 0, .int .i64 0, .int .i64 0, .int .i64 0, .int .i64 0]) ?_ 1 _ rfl; (with_reducible repeat (first | refine bN_ ?_ _ | refine bD_ ?_ | refine bA_ ?_ _)); refine bP_ (cs := #[.int .i64 0, .int .i64 0, .int .i64 0, .int .i64 0, .int .i64 0, .int .i64 0, .int .i64 0]) ?_ 0 _ rfl; (with_reducible repeat (first | refine bN_ ?_ _ | refine bD_ ?_ | refine bA_ ?_ _)); exact BK363.out) hb); have n3_ := Az_.mk (below_step (by repeat (first | (with_reducible first | exact HB.out | apply eA_ | apply pN_ | apply eD_ | refine eS_ ?_ GE361.out | refine eS_ ?_ GE363.out) | exact HB.out)) hb); clear HO_7; clear BK361; clear BK363; clear HB; have HO_7 := n0_; have BK361 := n1_; have BK363 := n2_; have HB := n3_; clear n0_ n1_ n2_ n3_; (try clear hb); (try clear hb2); (try clear hk); (try clear hi); have hcz21_0 : w20.cell? ⟨gb363, 0, none⟩ = some (.int .i64 ((rd_T67 l0 x12_1).f0)) := (bC_ BK363.out 0).trans rfl; have hcz21_1 : w20.cell? ⟨gb363, 1, none⟩ = some (.int .i64 ((rd_T67 l0 x12_1).f1.f0)) := (bC_ BK363.out 1).trans rfl; have hcz21_2 : w20.cell? ⟨gb363, 2, none⟩ = some (.int .i64 ((rd_T67 l0 x12_1).f1.f1)) := (bC_ BK363.out 2).trans rfl; have hcz21_3 : w20.cell? ⟨gb363, 3, none⟩ = some (.int .i64 ((rd_T67 l0 x12_1).f2.f0)) := (bC_ BK363.out 3).trans rfl; have hcz21_4 : w20.cell? ⟨gb363, 4, none⟩ = some (.int .i64 ((rd_T67 l0 x12_1).f2.f1)) := (bC_ BK363.out 4).trans rfl; have hcz21_5 : w20.cell? ⟨gb363, 5, none⟩ = some (.int .i64 ((rd_T67 l0 x12_1).f2.f2)) := (bC_ BK363.out 5).trans rfl; have hcz21_6 : w20.cell? ⟨gb363, 6, none⟩ = some (.int .i64 ((rd_T67 l0 x12_1).f2.f3)) := (bC_ BK363.out 6).trans rfl; have hfz21_0 := bF_ BK363.out 0; have hfz21_1 := bF_ BK363.out 1; have hfz21_2 := bF_ BK363.out 2; have hfz21_3 := bF_ BK363.out 3; have hfz21_4 := bF_ BK363.out 4; have hfz21_5 := bF_ BK363.out 5; have hfz21_6 := bF_ BK363.out 6) | ((with_reducible refine gate_builtin (b := .append) (xs := #[.tmp 21, .tmp 23]) rfl ?_); at_builtin; refine Kd.R_append k67 (w0 := w) w.heap.size rfl (.tmp 21) (.tmp 23) 39 67 (.agg #[(.int .i64 0), (.int .i64 0), (.int .i64 0), (.int .i64 0), (.int .i64 0), (.int .i64 0), (.int .i64 0)]) 56 rfl Try.underlying39 info67 rfl (by decide) (by omega) u7 x7_1 (⟨(rd_T67 l0 x12_1).f0, (⟨(rd_T67 l0 x12_1).f1.f0, (rd_T67 l0 x12_1).f1.f1⟩ : S26), (⟨(rd_T67 l0 x12_1).f2.f0, (rd_T67 l0 x12_1).f2.f1, (rd_T67 l0 x12_1).f2.f2, (rd_T67 l0 x12_1).f2.f3⟩ : S34)⟩ : S67) [.int .i64 ((rd_T67 l0 x12_1).f0), .int .i64 ((rd_T67 l0 x12_1).f1.f0), .int .i64 ((rd_T67 l0 x12_1).f1.f1), .int .i64 ((rd_T67 l0 x12_1).f2.f0), .int .i64 ((rd_T67 l0 x12_1).f2.f1), .int .i64 ((rd_T67 l0 x12_1).f2.f2), .int .i64 ((rd_T67 l0 x12_1).f2.f3)] (fun k_ => k_ ≠ gb363) (fun _ => False) rfl rfl ?aP (fun _ hk => hk.elim) ?aF ?aO ?aB ?aS ?aL ?_; (case aP => exact k67_mkM _ _ _ (⟨(rd_T67 l0 x12_1).f0, (⟨(rd_T67 l0 x12_1).f1.f0, (rd_T67 l0 x12_1).f1.f1⟩ : S26), (⟨(rd_T67 l0 x12_1).f2.f0, (rd_T67 l0 x12_1).f2.f1, (rd_T67 l0 x12_1).f2.f2, (rd_T67 l0 x12_1).f2.f3⟩ : S34)⟩ : S67)); (case aB => exact (by repeat (first | (with_reducible first | exact HB.out | apply eA_ | apply pN_ | apply eD_ | refine eS_ ?_ GE361.out | refine eS_ ?_ GE363.out) | exact HB.out))); (case aF => exact (fun k_ hk => Kd.freshB (g := gb363) (o := .cells #[.int .i64 ((rd_T67 l0 x12_1).f0), .int .i64 ((rd_T67 l0 x12_1).f1.f0), .int .i64 ((rd_T67 l0 x12_1).f1.f1), .int .i64 ((rd_T67 l0 x12_1).f2.f0), .int .i64 ((rd_T67 l0 x12_1).f2.f1), .int .i64 ((rd_T67 l0 x12_1).f2.f2), .int .i64 ((rd_T67 l0 x12_1).f2.f3)] 67 (0, 0)) (by (with_reducible repeat (first | refine bN_ ?_ _ | refine bD_ ?_ | refine bA_ ?_ _)); exact BK363.out) k_ hk)); (case aO => exact (by (with_reducible repeat (first | apply Kd.R_alloc | apply Kd.R_drewN | apply Kd.R_drew)); exact Kd.R_mono HO_7.out (fun _ hk => hk.2))); (case aS => exact (below_size (by repeat (first | (with_reducible first | exact HB.out | apply eA_ | apply pN_ | apply eD_ | refine eS_ ?_ GE361.out | refine eS_ ?_ GE363.out) | exact HB.out)))); (case aL => have := LMc15.out; omega); intro v366 w22 ho hb hg hat; rw [← Ny365.out] at ho; have n0_ := Az_.mk (blk_grown (g := gb361) (o := .cells #[.int .i64 a2_0, .int .i64 a2_1] 26 (0, 0)) (by (with_reducible repeat (first | refine bN_ ?_ _ | refine bD_ ?_ | refine bA_ ?_ _)); exact BK361.out) hg (Kd.R_ne HO_7.out BK361.out (by decide))); have n1_ := Az_.mk (blk_grown (g := gb363) (o := .cells #[.int .i64 ((rd_T67 l0 x12_1).f0), .int .i64 ((rd_T67 l0 x12_1).f1.f0), .int .i64 ((rd_T67 l0 x12_1).f1.f1), .int .i64 ((rd_T67 l0 x12_1).f2.f0), .int .i64 ((rd_T67 l0 x12_1).f2.f1), .int .i64 ((rd_T67 l0 x12_1).f2.f2), .int .i64 ((rd_T67 l0 x12_1).f2.f3)] 67 (0, 0)) (by (with_reducible repeat (first | refine bN_ ?_ _ | refine bD_ ?_ | refine bA_ ?_ _)); exact BK363.out) hg (Kd.R_away HO_7.out (fun _ hk => hk.2))); have n2_ := Az_.mk (hb); have n3_ := Az_.mk (ho); clear BK361; clear BK363; clear HB; clear HO_7; have BK361 := n0_; have BK363 := n1_; have HB := n2_; have HO367 := n3_; clear n0_ n1_ n2_ n3_; clear ho hb hg hat))
        go_roundg k1
        case measure => have := HK1.out; omega
        case rel => exact ⟨(y365), (wrap64 (x12_1 + 1)), (by first | rfl | (simp; done) | (simp [*]; done)), H', ⟨by have := HK1.out; omega⟩, ⟨by (with_reducible repeat (first | apply Kd.R_alloc | apply Kd.R_drewN | apply Kd.R_drew)); exact Kd.R_mono HO367.out (fun _ hk => trivial)⟩, ⟨by (with_reducible repeat (first | refine bN_ ?_ _ | refine bD_ ?_ | refine bA_ ?_ _)); exact BK361.out⟩, ⟨by repeat (first | (with_reducible first | exact HB.out | apply eA_ | apply pN_ | apply eD_ | refine eS_ ?_ GE361.out | refine eS_ ?_ GE363.out) | exact HB.out)⟩⟩
       ·rw [if_neg c15] at H
        exact absurd H (by simp)
     ·rw [if_neg c7] at H
      exact absurd H (by simp)
    ·rw [if_neg c6] at H
     exact absurd H (by simp)
   ·rw [if_neg c5] at H
    have c5b0 : decide (x12_1 < (l0.length : Int)) = false := decide_eq_false c5
    clear c5
    obtain rfl := Option.some.inj H
    go_wp2
    go_ret
    exact ⟨_, by first | rfl | (simp [errW_none, errW_some] <;> rfl) | (simp [*, errW_none, errW_some] <;> rfl), by (with_reducible repeat (first | apply Kd.R_alloc | apply Kd.R_drewN | apply Kd.R_drew)); exact HO_7.out, by repeat (first | (with_reducible first | exact HB.out | apply eA_ | apply pN_ | apply eD_ | refine eS_ ?_ GE361.out) | exact HB.out)⟩

-- NOT PRINTED: function 59 (impl_TabRow)

end Go.Proofs.Ytjclmjmbhhlbcaa.PFnTabOut
-- thin
