/- The law, walked: where the pure facts hold it answers true. Conditions: the library's variables hold what they are laid with; what the pure facts say. -/
import Derived.Test.YtgmkfhgebinfgaaDoorWalk2
import Derived.Test.YtgmkfhgebinfgaaDoorQFnExactJobParsex3
import Derived.Test.YtgmkfhgebinfgaaDoorQFnExactJobParsex6
set_option linter.unusedVariables false
set_option linter.unusedSimpArgs false
namespace Go.Proofs.YtgmkfhgebinfgaaDoor.Num
open Go.RowKit Go.Proofs.YtgmkfhgebinfgaaDoorW.PrintWords Go.Proofs.YtgmkfhgebinfgaaDoorW.PrintLast Go.Proofs.YtgmkfhgebinfgaaDoor.PFnExactJobParse

/-- A copy of rows of strings. -/
def ToPost (lines : List ByteArray) (w : World) (e : Ending) (w' : World) : Prop := ∃ A c, e = .returned (.slice A lines.length c) ∧ lines.length ≤ c ∧ Kd.C Kd.string w' A lines.length lines ∧ Below w.heap.size w w'
theorem to_any {lines : List ByteArray} {A0 : Option Addr} {c0 k : Nat} (w : World) (hr0 : Kd.C Kd.string w A0 lines.length lines) (hc0 : lines.length ≤ c0) (h : laws_toStringS.f k lines = some lines) : Calls Tryd.prog 6 #[.slice A0 lines.length c0] w (ToPost lines w) := by
  refine (laws_toStringS.calls k A0 c0 lines lines w hr0 hc0 h).mono fun e w' hw => ?_
  obtain ⟨v, he, hR, hb⟩ := hw
  obtain ⟨A, c, hv, hle, hC⟩ := Kd.R_reads hR
  exact ⟨A, c, by rw [he, hv], hle, hC, hb⟩
theorem sz_any {lines : List ByteArray} {A0 : Option Addr} {c0 k : Nat} {r : Int} (w : World) (hr0 : Kd.C Kd.string w A0 lines.length lines) (hc0 : lines.length ≤ c0) (h : laws_szStringS.f k lines 1048576 = some r) : Calls Tryd.prog 4 #[.slice A0 lines.length c0, .int .i64 1048576] w fun e w' => e = .returned (.int .i64 r) ∧ Below w.heap.size w w' :=
  (laws_szStringS.calls k A0 c0 lines 1048576 r w hr0 hc0 h).mono fun e w' hw => ⟨hw.1, hw.2.below⟩
theorem eqs_any {lines : List ByteArray} {A0 A1 : Option Addr} {c0 c1 k : Nat} (w : World) (hr0 : Kd.C Kd.string w A0 lines.length lines) (hc0 : lines.length ≤ c0) (hr1 : Kd.C Kd.string w A1 lines.length lines) (hc1 : lines.length ≤ c1) (h : laws_eqStringS.f k lines lines = some true) : Calls Tryd.prog 9 #[.slice A0 lines.length c0, .slice A1 lines.length c1] w fun e w' => e = .returned (.bool true) ∧ Below w.heap.size w w' :=
  (laws_eqStringS.calls k A0 c0 lines A1 c1 lines true w hr0 hc0 hr1 hc1 h).mono fun e w' hw => ⟨hw.1, hw.2.below⟩
theorem eqJob_is (x0 x1 x2 x3 x4 x5 x6 : Int) (x7 : Bool) (x8 x9 : Int) : laws_eqJobJob.f x0 x1 x2 x3 x4 x5 x6 x7 x8 x9 x0 x1 x2 x3 x4 x5 x6 x7 x8 x9 = some true := by
  unfold laws_eqJobJob.f
  simp
theorem C_step {w w1 : World} {A : Option Addr} {n : Nat} {xs : List ByteArray} (h : Kd.C Kd.string w A n xs) (hb : Below w.heap.size w w1) : Kd.C Kd.string w1 A n xs := Kd.C_below h hb

set_option maxRecDepth 100000 in
set_option maxHeartbeats 4000000 in
theorem law_short (A0 : Option Addr) (c0 k : Nat) (lines : List ByteArray) (w : World) (hr0 : Kd.C Kd.string w A0 lines.length lines) (hc0 : lines.length ≤ c0) (r : Int) (h : laws_szStringS.f k lines 1048576 = some r) (hr : r < 0) :
    Calls Tryd.prog 3 #[.slice A0 lines.length c0] w fun e w' => e = .returned (.bool true) ∧ Below w.heap.size w w' := by
  have HR := Lib.hid hr0
  have HC := Lib.hid hc0
  have H := Lib.hid h
  have hb : decide (r < 0) = true := decide_eq_true hr
  clear hr0 hc0 h
  go_enter Tryd.func3, Tryd.ntmps3
  go_wp2_with (go_at_call 4; refine (sz_any w HR.out HC.out H.out).mono ?_; rintro e w1 ⟨rfl, hb1⟩; have HB1 := Lib.hid hb1; clear hb1)
  go_ret
  exact ⟨rfl, HB1.out⟩
set_option maxRecDepth 100000 in
set_option maxHeartbeats 4000000 in
theorem law_long (A0 : Option Addr) (c0 k0 k1 k2 : Nat) (lines : List ByteArray) (w : World) (hr0 : Kd.C Kd.string w A0 lines.length lines) (hc0 : lines.length ≤ c0) (hg : Gl w) (r : Int) (h0 : laws_szStringS.f k0 lines 1048576 = some r) (hr : 0 ≤ r)
    (hsz : ∀ l ∈ lines, l.size ≤ 281474976710656) (h1 : laws_toStringS.f k1 lines = some lines) (h2 : laws_eqStringS.f k2 lines lines = some true)
    (hs : ∀ (A : Option Addr) (c : Nat) (W : World), Kd.C Kd.string W A lines.length lines → lines.length ≤ c → Calls Tryd.prog 5 #[.slice A lines.length c] W (JobPost lines W)) :
    Calls Tryd.prog 3 #[.slice A0 lines.length c0] w fun e w' => e = .returned (.bool true) ∧ Below w.heap.size w w' := by
  obtain ⟨x0, x1, x2, x3, x4, x5, x6, x7, x8, x9, y, hp⟩ : ∃ (x0 x1 x2 x3 x4 x5 x6 : Int) (x7 : Bool) (x8 x9 y : Int), ∀ W e W', JobPost lines W e W' → e = .returned (.tuple #[.agg #[.int .i64 x0, .int .i64 x1, .int .i64 x2, .int .i64 x3, .int .i64 x4, .int .i64 x5, .int .i64 x6, .bool x7, .int .i64 x8, .int .i64 x9], .int .i64 y]) ∧ Below W.heap.size W W' :=
    ⟨_, _, _, _, _, _, _, _, _, _, _, fun W e W' h => h⟩
  have HP := Lib.hid hp
  have HR := Lib.hid hr0
  have HC := Lib.hid hc0
  have HG := Lib.hid hg
  have HZ := Lib.hid hsz
  have H0 := Lib.hid h0
  have H1 := Lib.hid h1
  have H2 := Lib.hid h2
  have HS := Lib.hid hs
  have hb : decide (r < 0) = false := decide_eq_false (by omega)
  clear hr0 hc0 h0 h1 h2 hs hg hsz hp
  go_enter Tryd.func3, Tryd.ntmps3
  go_wp2_with (first | (go_at_call 4; refine (sz_any w HR.out HC.out H0.out).mono ?_; rintro e w1 ⟨rfl, hb1⟩; have HB1 := Lib.hid hb1; clear hb1) | (go_at_call 6; refine (to_any _ (C_step HR.out HB6.out) HC.out H1.out).mono ?_; rintro e w7 ⟨A7, c7, rfl, hc7, hr7, hb7⟩; have HR7 := Lib.hid hr7; have HC7 := Lib.hid hc7; have HB7 := Lib.hid (HB6.out.trans (hb7.mono HB6.out.size)); have HX7 := Lib.hid (HX6.out.trans (hb7.mono HX6.out.size)); clear hr7 hc7 hb7) | (go_at_call 6; refine (to_any _ (C_step HR.out (below_alloc HB3.out _)) HC.out H1.out).mono ?_; rintro e w4 ⟨A4, c4, rfl, hc4, hr4, hb4⟩; have HR4 := Lib.hid hr4; have HC4 := Lib.hid hc4; have HK4 := Lib.hid (blk_below (blk_new w3 _) hb4); have HB4 := Lib.hid ((below_alloc HB3.out _).trans (hb4.mono (below_alloc HB3.out _).size)); clear hr4 hc4 hb4) | (go_at_call 6; refine (to_any _ (C_step HR.out HB1.out) HC.out H1.out).mono ?_; rintro e w2 ⟨A2, c2, rfl, hc2, hr2, hb2⟩; have HR2 := Lib.hid hr2; have HC2 := Lib.hid hc2; have HB2 := Lib.hid (HB1.out.trans (hb2.mono HB1.out.size)); clear hr2 hc2 hb2) | (go_at_call 5; refine (HS.out _ _ _ HR2.out HC2.out).mono ?_; intro e w3 hp3; obtain ⟨rfl, hb3⟩ := HP.out _ _ _ hp3; have HB3 := Lib.hid (HB2.out.trans (hb3.mono HB2.out.size)); clear hp3 hb3) | (go_at_call 7; refine (jobParse_any A4 c4 lines _ HR4.out HZ.out (HG.out.step HB4.out)).mono ?_; intro e w5 hp5; obtain ⟨rfl, hb5⟩ := HP.out _ _ _ hp5; have HK5 := Lib.hid (blk_below HK4.out hb5); have HB5 := Lib.hid (HB4.out.trans (hb5.mono HB4.out.size)); have HX5 := Lib.hid hb5; obtain ⟨s0, s1, s2, s3, s4, s5, s6, s7, s8, s9⟩ := ten_cells HK5.out; have hlt5 : w3.heap.size < w5.heap.size := blk_lt HK5.out; clear hp5 hb5) | (go_at_call 8; refine (laws_eqJobJob.calls x0 x1 x2 x3 x4 x5 x6 x7 x8 x9 x0 x1 x2 x3 x4 x5 x6 x7 x8 x9 true _ (eqJob_is x0 x1 x2 x3 x4 x5 x6 x7 x8 x9)).mono ?_; rintro e w6 ⟨rfl, hb6⟩; have HB6 := Lib.hid ((below_alloc HB5.out _).trans (hb6.mono (below_alloc HB5.out _).size)); have HX6 := Lib.hid ((below_alloc HX5.out _).trans (hb6.mono (below_alloc HX5.out _).size)); clear hb6) | (go_at_call 9; refine (eqs_any _ (C_step HR4.out HX7.out) HC4.out HR7.out HC7.out H2.out).mono ?_; rintro e w8 ⟨rfl, hb8⟩; have HB8 := Lib.hid (HB7.out.trans (hb8.mono HB7.out.size)); clear hb8))
  go_ret
  exact ⟨rfl, HB8.out⟩
end Go.Proofs.YtgmkfhgebinfgaaDoor.Num
