/- The contracts of impl's numberOf and of a job's fields, by hand. Conditions: the library's variables that strconv reads hold what they are laid with; a word of at most 2^48 bytes. -/
import Derived.Test.YtgmkfhgebinfgaaDoorShelf
import Derived.Test.YtgmkfhgebinfgaaDoorWWords
import Derived.Lib.AppendIntMem
import Derived.Lib.AtoiErrMem
import Derived.Lib.AtoiAllCases
import Derived.WalkSmall
import Derived.WalkKit
import Derived.WalkSpells
import Derived.BigRegion
import Derived.BigQuiet
import Derived.Deep.QuietTactic
import Derived.StillTailTactics
import Derived.KernelRfl
set_option linter.unusedVariables false
set_option linter.unusedSimpArgs false
namespace Go.Proofs.YtgmkfhgebinfgaaDoor.Num
open Go.RowKit Go.Proofs.YtgmkfhgebinfgaaDoorW.PrintWords

/-- What strconv reads of the package variables. -/
structure Gl (w : World) : Prop where
  e0 : ∃ te pe, w.cell? ⟨0, 0, none⟩ = some (.iface te pe)
  e1 : ∃ te pe, w.cell? ⟨1, 0, none⟩ = some (.iface te pe)
  tab : Lib.TabIs Tryd.prog w "internal/strconv.uint64pow10" .u64 Lib.pow10Tab
theorem gTab : Tryd.prog.globalNamed "internal/strconv.uint64pow10" = some 2 := by kernel_rfl
theorem cell_lt {w : World} {a : Addr} {v : Value} (h : w.cell? a = some v) : a.block < w.heap.size := World.block_lt_of_cell? w a h
theorem Gl.lt {w : World} (h : Gl w) : 2 < w.heap.size := by
  have ht := h.tab
  unfold Lib.TabIs World.var? at ht
  simp only [gTab, Option.bind_some] at ht
  rcases Nat.lt_or_ge 2 w.heap.size with hl | hl
  · exact hl
  · rw [Array.getElem?_eq_none hl] at ht
    simp at ht
theorem Gl.below {w w1 : World} (h : Gl w) {B : Nat} (hB : 2 < B) (hb : Below B w w1) : Gl w1 := by
  obtain ⟨te, pe, h0⟩ := h.e0
  obtain ⟨tf, pf, h1⟩ := h.e1
  refine ⟨⟨te, pe, ?_⟩, ⟨tf, pf, ?_⟩, ?_⟩
  · rw [hb.cell (p := ⟨0, 0, none⟩) (by simp; omega)]
    exact h0
  · rw [hb.cell (p := ⟨1, 0, none⟩) (by simp; omega)]
    exact h1
  · exact var?_below hb gTab (by omega) h.tab
theorem Gl.step {w w1 : World} (h : Gl w) (hb : Below w.heap.size w w1) : Gl w1 := h.below h.lt hb

/-! ### strconv.Atoi, Itoa: what the callers see -/
theorem atoi_ok (s : ByteArray) (hmax : s.size ≤ 281474976710656) (v : Int) (h : Lib.atoiAll s.data.toList = .ok v) (w : World) :
    Calls Tryd.prog 21 #[.string s] w fun e w' => e = .returned (.tuple #[.int .i64 v, .nilIface]) ∧ Below w.heap.size w w' := by
  refine (Tryd.strconv_Atoi_ok s (by omega) v h w).mono fun e w' hw => ⟨hw.1, ?_⟩
  rcases hw.2 with h | ⟨t, h⟩
  · rw [h]; exact Below.refl _ _
  · rw [h]; exact Lib.bytesWorld_below _ _ _
def Failed (w : World) (e : Ending) (w' : World) : Prop := ∃ n N, e = .returned (.tuple #[.int .i64 n, .iface 59 (.pointer (some ⟨N, 0, none⟩))]) ∧ Below w.heap.size w w'
theorem atoi_no (s : ByteArray) (hmax : s.size ≤ 281474976710656) (h : ∀ v, Lib.atoiAll s.data.toList ≠ .ok v) (w : World) (hg : Gl w) :
    Calls Tryd.prog 21 #[.string s] w (Failed w) := by
  obtain ⟨te, pe, h0⟩ := hg.e0
  obtain ⟨tf, pf, h1⟩ := hg.e1
  rcases ha : Lib.atoiAll s.data.toList with v | _ | _
  · exact absurd ha (h v)
  · refine (Any.strconv_Atoi_syntax Tryd.laysC172 s hmax ha _ w h0 (.inr ⟨_, _, rfl⟩)).mono fun e w' hw => ?_
    obtain ⟨N, he, _, _, hb⟩ := hw
    exact ⟨_, N, he, hb⟩
  · refine (Any.strconv_Atoi_range Tryd.laysC172 s hmax ha _ w h1 (.inr ⟨_, _, rfl⟩)).mono fun e w' hw => ?_
    obtain ⟨N, he, _, _, hb⟩ := hw
    exact ⟨_, N, he, hb⟩
/-- A number's decimals. -/
def itoaB (n : Int) : ByteArray := ⟨(Lib.itoa n).toArray⟩
/-- A word without its minus. -/
def trimM (s : ByteArray) : ByteArray := ⟨(Lib.trimPrefix s.data.toList [45]).toArray⟩
theorem itoa_any (n : Int) (h0 : -9223372036854775808 ≤ n) (h1 : n ≤ 9223372036854775807) (w : World) (hg : Gl w) :
    Calls Tryd.prog 22 #[.int .i64 n] w fun e w' => e = .returned (.string (itoaB n)) ∧ Below w.heap.size w w' := by
  refine (Tryd.strconv_Itoa n h0 h1 w hg.tab).mono fun e w' hw => ?_
  obtain ⟨he, k, os, h⟩ := hw
  exact ⟨he, by rw [h]; exact Lib.below_grow _ _ (Nat.le_refl _) _ _⟩
theorem trim_any (s : ByteArray) (w : World) : Calls Tryd.prog 23 #[.string s, .string ⟨#[45]⟩] w fun e w' => e = .returned (.string (trimM s)) ∧ w = w' :=
  (Tryd.strings_TrimPrefix s ⟨#[45]⟩ w).mono fun _ _ hw => ⟨hw.1, hw.2.symm⟩

/-- The number that a word is. -/
def isNum (s : ByteArray) : Option Int := match Lib.atoiAll s.data.toList with
  | .ok v => if ((itoaB v).toList == s.toList) = true then (if (trimM s).size ≤ 7 then some v else none) else none
  | _ => none
/-- Of no number. -/
def NumNo (w : World) (e : Ending) (w' : World) : Prop := ∃ n, e = .returned (.tuple #[.int .i64 n, .bool false]) ∧ Below w.heap.size w w'
set_option maxRecDepth 100000 in
set_option maxHeartbeats 1000000 in
theorem numberOf_ok (s : ByteArray) (hmax : s.size ≤ 281474976710656) (v : Int) (ha : Lib.atoiAll s.data.toList = .ok v) (b1 b2 : Bool) (c1 : ((itoaB v).toList == s.toList) = b1) (c2 : decide (((trimM s).size : Int) ≤ 7) = b2) (w : World) (hg : Gl w) :
    Calls Tryd.prog 17 #[.string s] w fun e w' => e = .returned (.tuple #[.int .i64 v, .bool (b1 && b2)]) ∧ Below w.heap.size w w' := by
  obtain ⟨n0, n1⟩ := Lib.atoiAll_bounds ha
  have HG := Lib.hid hg
  have HA := Lib.hid ha
  clear hg ha
  cases b1 <;> cases b2
  all_goals
    go_enter Tryd.func17, Tryd.ntmps17
    go_wp2_with (first | (go_at_call 21; refine (atoi_ok s hmax v HA.out _).mono ?_; rintro e w1 ⟨rfl, hb1⟩; have HB1 := Lib.hid hb1; clear hb1) | (go_at_call 22; refine (itoa_any v n0 n1 _ (HG.out.step HB1.out)).mono ?_; rintro e w2 ⟨rfl, hb2⟩; have HB2 := Lib.hid (HB1.out.trans (hb2.mono HB1.out.size)); clear hb2) | (go_at_call 23; refine (trim_any s _).mono ?_; rintro e w3 ⟨rfl, rfl⟩))
    go_ret2
    exact ⟨rfl, HB2.out⟩
set_option maxRecDepth 100000 in
theorem numberOf_err (s : ByteArray) (hmax : s.size ≤ 281474976710656) (ha : ∀ v, Lib.atoiAll s.data.toList ≠ .ok v) (w : World) (hg : Gl w) : Calls Tryd.prog 17 #[.string s] w (NumNo w) := by
  have HG := Lib.hid hg
  have HA := Lib.hid ha
  clear hg ha
  go_enter Tryd.func17, Tryd.ntmps17
  go_wp2_with (go_at_call 21; refine (atoi_no s hmax HA.out _ HG.out).mono ?_; rintro e w1 ⟨n, N, rfl, hb1⟩; have HB1 := Lib.hid hb1; clear hb1)
  go_ret2
  exact ⟨n, rfl, HB1.out⟩
theorem numberOf_yes (s : ByteArray) (hmax : s.size ≤ 281474976710656) (n : Int) (h : isNum s = some n) (w : World) (hg : Gl w) :
    Calls Tryd.prog 17 #[.string s] w fun e w' => e = .returned (.tuple #[.int .i64 n, .bool true]) ∧ Below w.heap.size w w' := by
  unfold isNum at h
  rcases ha : Lib.atoiAll s.data.toList with v | _ | _
  · rw [ha] at h
    simp only at h
    by_cases c1 : ((itoaB v).toList == s.toList) = true
    · rw [if_pos c1] at h
      by_cases c2 : (trimM s).size ≤ 7
      · rw [if_pos c2] at h
        obtain rfl := Option.some.inj h
        exact numberOf_ok s hmax v ha true true c1 (decide_eq_true (by omega)) w hg
      · rw [if_neg c2] at h
        cases h
    · rw [if_neg c1] at h
      cases h
  · rw [ha] at h
    cases h
  · rw [ha] at h
    cases h
theorem numberOf_no (s : ByteArray) (hmax : s.size ≤ 281474976710656) (h : isNum s = none) (w : World) (hg : Gl w) : Calls Tryd.prog 17 #[.string s] w (NumNo w) := by
  unfold isNum at h
  rcases ha : Lib.atoiAll s.data.toList with v | _ | _
  · rw [ha] at h
    simp only at h
    by_cases c1 : ((itoaB v).toList == s.toList) = true
    · rw [if_pos c1] at h
      by_cases c2 : (trimM s).size ≤ 7
      · rw [if_pos c2] at h
        cases h
      · exact (numberOf_ok s hmax v ha true false c1 (decide_eq_false (by omega)) w hg).mono fun e w' hw => ⟨v, hw.1, hw.2⟩
    · exact (numberOf_ok s hmax v ha false _ (by simpa using c1) rfl w hg).mono fun e w' hw => ⟨v, hw.1, hw.2⟩
  · exact numberOf_err s hmax (by rw [ha]; intro v h; cases h) w hg
  · exact numberOf_err s hmax (by rw [ha]; intro v h; cases h) w hg
end Go.Proofs.YtgmkfhgebinfgaaDoor.Num
