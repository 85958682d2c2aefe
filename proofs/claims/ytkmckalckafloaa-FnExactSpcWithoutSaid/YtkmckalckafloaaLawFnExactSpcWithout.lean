/- The law FnExactSpcWithout: at every argument the call returns true, and each argument reads as it read. No condition. (The row, by wip/rows.py, over the printed contract and my pure proof.) -/
import Derived.Test.YtkmckalckafloaaRows
import Derived.Test.YtkmckalckafloaaQFnExactSpcWithoutx5
import Derived.Test.YtkmckalckafloaaPureFnExactSpcWithout
import Derived.WalkKit
import Derived.ProofKit
import Derived.OpenShut
import Derived.ShutString
import Derived.ChangeOld
import Derived.Below
import Derived.SizedLaws
import Derived.Deep.Slices
import Derived.ChangeSlices
import Derived.ChangeArms
import Derived.Carry
import Derived.SliceStrings
namespace Go.Proofs.Ytkmckalckafloaa.fnExactSpcWithout
open Go.ChangeShapes Go.WideShapes Go.ChangeAt Go.RowKit Go.Proofs.YtkmckalckafloaaW.PrintWords Go.Proofs.Ytkmckalckafloaa.PFnExactSpcWithout
open Go.ChangeMaps (open_string shut_string)
set_option linter.unusedVariables false
set_option linter.unusedSimpArgs false
theorem own : ownKnob Try.prog.godebug = none := by kernel_rfl
theorem laidOut : laidOutB Try.prog = true := by kernel_rfl
set_option maxRecDepth 100000 in
theorem opens99 {H : Type} {enc : TypeId × Value → H} {w : World} {base : Nat} {spare : Nat → Bool} {held : Bool} {fuel : Nat} {cs : List Value} {x : DataW H × List MemPlace} (h : DataW.trod enc Try.prog w base spare held fuel 99 cs = some x) :
    ∃ (n0 : Int) (n1 : Int) (n2 : Int) (n3 : Int) (n4 : Int), cs = [.int .i64 n0, .int .i64 n1, .int .i64 n2, .int .i64 n3, .int .i64 n4] ∧ (Lit.int .i64 n0).wf = true ∧ (Lit.int .i64 n1).wf = true ∧ (Lit.int .i64 n2).wf = true ∧ (Lit.int .i64 n3).wf = true ∧ (Lit.int .i64 n4).wf = true := by
  obtain ⟨xs, n, _, _, hlen, hxl, hf⟩ := DataW.trod_struct Try.underlying99 h
  have kt : Try.prog.cellsOf 99 = 5 := by kernel_rfl
  have k3 : Try.prog.cellsOf 3 = 1 := by kernel_rfl
  have hl : cs.length = 5 := hlen.trans kt
  have hx : xs.length = 5 := hxl
  clear hlen hxl kt
  match xs, hx with
  | [y0, y1, y2, y3, y4], _ =>
    match cs, hl with
    | [c0, c1, c2, c3, c4], _ =>
      have e0 : DataW.trod enc Try.prog w base spare held n 3 [c0] = some y0 := by simpa [k3] using hf 0 _ rfl
      obtain ⟨n0, hh0, _, w0⟩ := DataW.trod_int Try.underlying3 e0
      simp only [List.cons.injEq, and_true] at hh0
      obtain rfl := hh0
      have e1 : DataW.trod enc Try.prog w base spare held n 3 [c1] = some y1 := by simpa [k3] using hf 1 _ rfl
      obtain ⟨n1, hh1, _, w1⟩ := DataW.trod_int Try.underlying3 e1
      simp only [List.cons.injEq, and_true] at hh1
      obtain rfl := hh1
      have e2 : DataW.trod enc Try.prog w base spare held n 3 [c2] = some y2 := by simpa [k3] using hf 2 _ rfl
      obtain ⟨n2, hh2, _, w2⟩ := DataW.trod_int Try.underlying3 e2
      simp only [List.cons.injEq, and_true] at hh2
      obtain rfl := hh2
      have e3 : DataW.trod enc Try.prog w base spare held n 3 [c3] = some y3 := by simpa [k3] using hf 3 _ rfl
      obtain ⟨n3, hh3, _, w3⟩ := DataW.trod_int Try.underlying3 e3
      simp only [List.cons.injEq, and_true] at hh3
      obtain rfl := hh3
      have e4 : DataW.trod enc Try.prog w base spare held n 3 [c4] = some y4 := by simpa [k3] using hf 4 _ rfl
      obtain ⟨n4, hh4, _, w4⟩ := DataW.trod_int Try.underlying3 e4
      simp only [List.cons.injEq, and_true] at hh4
      obtain rfl := hh4
      exact ⟨n0, n1, n2, n3, n4, rfl, w0, w1, w2, w3, w4⟩

theorem C_of_slice {α : Type} (d : Kd α) (Q : α → Prop) {H : Type} {enc : TypeId × Value → H} {P : Program} {w : World} {base : Nat} {spare : Nat → Bool} {held : Bool} {t e : TypeId} {A : Option Addr} {len cap : Nat} {dd : DataW H} {ps : List MemPlace}
    (ht : P.underlying t = some (.slice e)) (hsz : P.cellsOf e = d.sz)
    (hop : ∀ {n : Nat} {cs : List Value} {x : DataW H × List MemPlace}, DataW.trod enc P w base spare held n e cs = some x → ∃ y, d.K w y cs ∧ Q y)
    (h : DataW.Trod enc P w base spare held t (.slice A len cap) dd ps) : ∃ l : List α, l.length = len ∧ Kd.C d w A l.length l ∧ l.length ≤ cap ∧ l.length ≤ maxLen ∧ ∀ y ∈ l, Q y := by
  obtain ⟨fuel, hf⟩ := h
  rcases Go.Deep.open_slice ht hf with ⟨hcs, _⟩ | ⟨a, len', cap', m, n, D, Pl, hcs, hb, hl, hm, hmm, hx, hi⟩
  · simp [Value.cells] at hcs
    obtain ⟨rfl, rfl, rfl⟩ := hcs
    exact ⟨[], rfl, ⟨rfl, by simp, fun h => absurd h (by simp)⟩, by simp, by simp, by simp⟩
  · simp [Value.cells] at hcs
    obtain ⟨rfl, rfl, rfl⟩ := hcs
    have hlm : len ≤ m := by rw [hmm]; split <;> omega
    have key : ∀ q, q ≤ len → ∃ l : List α, l.length = q ∧ (∀ y ∈ l, Q y) ∧ ∀ j p, l[j]? = some p → ∃ c, c.length = d.sz ∧ d.K w p c ∧ ∀ i u, c[i]? = some u → w.cell? (a.add (j * d.sz + i)) = some u := by
      intro q
      induction q with
      | zero => exact fun _ => ⟨[], rfl, by simp, by simp⟩
      | succ q ih =>
        intro hq
        obtain ⟨l, hll, hQ, hc⟩ := ih (by omega)
        obtain ⟨cs', hcc, ht'⟩ := hi q (by omega)
        obtain ⟨y, hk, hy⟩ := hop ht'
        obtain ⟨_, hcl, hat⟩ := World.cells?_some hcc
        refine ⟨l ++ [y], by simp [hll], fun z hz => ?_, fun j p hj => ?_⟩
        · rcases List.mem_append.1 hz with hz | hz
          · exact hQ z hz
          · rw [List.mem_singleton.1 hz]; exact hy
        · rcases Nat.lt_or_ge j l.length with hjl | hjl
          · rw [List.getElem?_append_left hjl] at hj
            exact hc j p hj
          · rw [List.getElem?_append_right hjl] at hj
            have hj0 : j = q := by
              rcases Nat.lt_or_ge (j - l.length) 1 with h1 | h1
              · omega
              · rw [List.getElem?_eq_none (by simpa using h1)] at hj
                exact absurd hj (by simp)
            subst hj0
            rw [hll, Nat.sub_self] at hj
            obtain rfl : y = p := by simpa using hj
            refine ⟨cs', hcl.trans hsz, hk, fun i u hu => ?_⟩
            have hil : i < P.cellsOf e := by rw [← hcl]; exact (List.getElem?_eq_some_iff.1 hu).1
            rw [← hsz, ← Go.Deep.add_add, hat i hil]
            exact hu
    obtain ⟨l, hll, hQ, hc⟩ := key len (Nat.le_refl _)
    have hmx : (maxLen : Nat) ≤ 9223372036854775807 := by unfold maxLen; omega
    subst hll
    exact ⟨l, rfl, ⟨rfl, by omega, fun _ => ⟨a, rfl, hc⟩⟩, hl, by omega, hQ⟩

set_option maxRecDepth 100000 in
theorem lifted (os : Os) (started : os.Started) (H : Type) (enc : TypeId × Value → H) :
    ReturnsInHanded {} Try.checked os 13 .any (Rows.fnExactSpcWithoutSpec.pre6 enc Try.prog Try.f13 Rows.fnExactSpcWithoutRow.domain false) (Rows.fnExactSpcWithoutSpec.post enc Try.prog Try.f13 false true false false) := by
  refine returnsInHanded_of_change_sized (C := Try.checked) own started (by kernel_rfl) Try.func13
    (ChangeSpec.witness6 (enc := enc) (C := Try.checked) false ⟨#[], #[.slice none 0 0, .slice none 0 0], []⟩ 8 (by kernel_rfl) (by kernel_rfl) (by kernel_rfl) (by kernel_rfl)) ?_
  intro W base args ds gs before hval0 hW hcnd hsz0 _
  have hsz : (DataW.weightsEach Try.prog (Try.f13.params.toList ++ Rows.fnExactSpcWithoutSpec.plain.varTypes Try.prog) (ds ++ gs)).all (· ≤ reachBytes) = true := hsz0
  have hval : ∀ (j : Nat) t v, Try.f13.params[j]? = some t → args[j]? = some v → Value.okWide Try.prog W .any base t v := hval0
  have hW' := hW
  obtain ⟨p, q, hA0, hV, rfl, hfz, hnd⟩ := hW
  have hA : DataW.TrodAll enc Try.prog W 0 (fun _ => true) true Try.f13.params.toList args.toList ds p := hA0
  rw [Try.params13] at hA hval hsz
  obtain ⟨v0, vs0, d0, ds0, p0, q0, hargs, rfl, rfl, h0, r0⟩ := trodAll_cons hA
  obtain ⟨v1, vs1, d1, ds1, p1, q1, rfl, rfl, rfl, h1, r1⟩ := trodAll_cons r0
  obtain ⟨rfl, rfl, rfl⟩ := trodAll_nil r1
  obtain rfl : args = #[v0, v1] := by cases args; simp_all
  obtain ⟨rfl, rfl⟩ := trodVars_none hV
  have k0 := h0
  have lt0 : ∀ x ∈ p0, x.block < W.heap.size := by obtain ⟨m, hm⟩ := k0; exact DataW.trod_lt m _ _ _ hm
  obtain ⟨A0, len0, c0, rfl⟩ := okWide_slice Try.underlying38 (hval 0 38 v0 rfl rfl)
  obtain ⟨l0, hll0, hr0, hc0, hm0, hq0⟩ := C_of_slice k99 (fun x : S99 => (Lit.int .i64 x.f0).wf = true ∧ (Lit.int .i64 x.f1).wf = true ∧ (Lit.int .i64 x.f2).wf = true ∧ (Lit.int .i64 x.f3).wf = true ∧ (Lit.int .i64 x.f4).wf = true) Try.underlying38 (by kernel_rfl) (fun {_ _ _} ht => by
    obtain ⟨n0, n1, n2, n3, n4, rfl, w0, w1, w2, w3, w4⟩ := opens99 ht
    exact ⟨⟨n0, n1, n2, n3, n4⟩, k99_mk _ _, ⟨w0, w1, w2, w3, w4⟩⟩) h0
  subst hll0
  have k1 := h1
  have lt1 : ∀ x ∈ p1, x.block < W.heap.size := by obtain ⟨m, hm⟩ := k1; exact DataW.trod_lt m _ _ _ hm
  obtain ⟨A1, len1, c1, rfl⟩ := okWide_slice Try.underlying38 (hval 1 38 v1 rfl rfl)
  obtain ⟨l1, hll1, hr1, hc1, hm1, hq1⟩ := C_of_slice k99 (fun x : S99 => (Lit.int .i64 x.f0).wf = true ∧ (Lit.int .i64 x.f1).wf = true ∧ (Lit.int .i64 x.f2).wf = true ∧ (Lit.int .i64 x.f3).wf = true ∧ (Lit.int .i64 x.f4).wf = true) Try.underlying38 (by kernel_rfl) (fun {_ _ _} ht => by
    obtain ⟨n0, n1, n2, n3, n4, rfl, w0, w1, w2, w3, w4⟩ := opens99 ht
    exact ⟨⟨n0, n1, n2, n3, n4⟩, k99_mk _ _, ⟨w0, w1, w2, w3, w4⟩⟩) h1
  subst hll1
  clear hA0 hval0 hsz0 hsz
  obtain ⟨k, hp⟩ := Pure.FnExactSpcWithout l0 hm0 hq0 l1 hm1 hq1
  refine (laws_FnExactSpcWithout.calls k _ _ l0 _ _ l1 W hr0 hc0 hr1 hc1 hp).mono fun e W' ⟨he, bel0⟩ => ?_
  have bel : Below W.heap.size W W' := by first | exact bel0 | exact bel0.below
  subst he
  exact ⟨_, rfl, _, _, _, [], _, [], hW', trodAll_mk1 (shut_bool Try.underlying4 _), (trodAll_cons_mk (Below.trod laidOut (by kernel_rfl) (of_decide_eq_true (by kernel_rfl)) k0 bel lt0) (trodAll_cons_mk (Below.trod laidOut (by kernel_rfl) (of_decide_eq_true (by kernel_rfl)) k1 bel lt1) trodAll_mk0)), rfl, bel.frame _, fun h => by cases h⟩
theorem over : Rows.fnExactSpcWithoutRow.holds Try.pinned (OpenSpec.ofChange Rows.fnExactSpcWithoutSpec) :=
  OpenClaim.holds_of_wide 13 Try.f13 rfl rfl rfl rfl rfl rfl rfl ⟨rfl, rfl, rfl, rfl, rfl⟩ rfl rfl rfl rfl rfl (by kernel_rfl) Try.func13 (by kernel_rfl)
    (of_decide_eq_true (by kernel_rfl)) (by unfold Func.isWrapper; first | (rw [if_pos (by decide +kernel)]; kernel_rfl) | (rw [if_neg (by decide +kernel)]; exact ⟨rfl, rfl⟩))
    (fun os started H enc _ => lifted os started H enc)
theorem proved : Rows.FnExactSpcWithoutSaid := over
#print axioms proved
end Go.Proofs.Ytkmckalckafloaa.fnExactSpcWithout
namespace Go.Proofs.Ytkmckalckafloaa
/-- The row, under a short name, for the claim. -/
theorem fnExactSpcWithout_holds : Rows.FnExactSpcWithoutSaid := fnExactSpcWithout.proved
end Go.Proofs.Ytkmckalckafloaa
