/- The law FnExactTabFind: at every argument the call returns true, and each argument reads as it read. No condition. (The row, by wip/rows.py, over the printed contract and my pure proof.) -/
import Derived.Test.YtkmckalckafloaaRows
import Derived.Test.YtkmckalckafloaaQFnExactTabFindx4
import Derived.Test.YtkmckalckafloaaPureFnExactTabFind
import Derived.WalkKit
import Derived.ProofKit
import Derived.OpenShut
import Derived.ShutString
import Derived.ChangeOld
import Derived.Below
import Derived.SizedLaws
import Derived.Deep.Slices
import Derived.ChangeSlices
import Derived.ChangeArms
import Derived.Carry
import Derived.SliceStrings
namespace Go.Proofs.Ytkmckalckafloaa.fnExactTabFind
open Go.ChangeShapes Go.WideShapes Go.ChangeAt Go.RowKit Go.Proofs.YtkmckalckafloaaW.PrintWords Go.Proofs.Ytkmckalckafloaa.PFnExactTabFind
open Go.ChangeMaps (open_string shut_string)
set_option linter.unusedVariables false
set_option linter.unusedSimpArgs false
theorem own : ownKnob Try.prog.godebug = none := by kernel_rfl
theorem laidOut : laidOutB Try.prog = true := by kernel_rfl
set_option maxRecDepth 100000 in
theorem opens29 {H : Type} {enc : TypeId × Value → H} {w : World} {base : Nat} {spare : Nat → Bool} {held : Bool} {fuel : Nat} {cs : List Value} {x : DataW H × List MemPlace} (h : DataW.trod enc Try.prog w base spare held fuel 29 cs = some x) :
    ∃ (n0 : Int) (n1 : Int), cs = [.int .i64 n0, .int .i64 n1] ∧ (Lit.int .i64 n0).wf = true ∧ (Lit.int .i64 n1).wf = true := by
  obtain ⟨xs, n, _, _, hlen, hxl, hf⟩ := DataW.trod_struct Try.underlying29 h
  have kt : Try.prog.cellsOf 29 = 2 := by kernel_rfl
  have k3 : Try.prog.cellsOf 3 = 1 := by kernel_rfl
  have hl : cs.length = 2 := hlen.trans kt
  have hx : xs.length = 2 := hxl
  clear hlen hxl kt
  match xs, hx with
  | [y0, y1], _ =>
    match cs, hl with
    | [c0, c1], _ =>
      have e0 : DataW.trod enc Try.prog w base spare held n 3 [c0] = some y0 := by simpa [k3] using hf 0 _ rfl
      obtain ⟨n0, hh0, _, w0⟩ := DataW.trod_int Try.underlying3 e0
      simp only [List.cons.injEq, and_true] at hh0
      obtain rfl := hh0
      have e1 : DataW.trod enc Try.prog w base spare held n 3 [c1] = some y1 := by simpa [k3] using hf 1 _ rfl
      obtain ⟨n1, hh1, _, w1⟩ := DataW.trod_int Try.underlying3 e1
      simp only [List.cons.injEq, and_true] at hh1
      obtain rfl := hh1
      exact ⟨n0, n1, rfl, w0, w1⟩

set_option maxRecDepth 100000 in
theorem opens89 {H : Type} {enc : TypeId × Value → H} {w : World} {base : Nat} {spare : Nat → Bool} {held : Bool} {fuel : Nat} {cs : List Value} {x : DataW H × List MemPlace} (h : DataW.trod enc Try.prog w base spare held fuel 89 cs = some x) :
    ∃ (n0 : Int) (n1 : Int) (n2 : Int) (n3 : Int), cs = [.int .i64 n0, .int .i64 n1, .int .i64 n2, .int .i64 n3] ∧ (Lit.int .i64 n0).wf = true ∧ (Lit.int .i64 n1).wf = true ∧ (Lit.int .i64 n2).wf = true ∧ (Lit.int .i64 n3).wf = true := by
  obtain ⟨xs, n, _, _, hlen, hxl, hf⟩ := DataW.trod_struct Try.underlying89 h
  have kt : Try.prog.cellsOf 89 = 4 := by kernel_rfl
  have k3 : Try.prog.cellsOf 3 = 1 := by kernel_rfl
  have hl : cs.length = 4 := hlen.trans kt
  have hx : xs.length = 4 := hxl
  clear hlen hxl kt
  match xs, hx with
  | [y0, y1, y2, y3], _ =>
    match cs, hl with
    | [c0, c1, c2, c3], _ =>
      have e0 : DataW.trod enc Try.prog w base spare held n 3 [c0] = some y0 := by simpa [k3] using hf 0 _ rfl
      obtain ⟨n0, hh0, _, w0⟩ := DataW.trod_int Try.underlying3 e0
      simp only [List.cons.injEq, and_true] at hh0
      obtain rfl := hh0
      have e1 : DataW.trod enc Try.prog w base spare held n 3 [c1] = some y1 := by simpa [k3] using hf 1 _ rfl
      obtain ⟨n1, hh1, _, w1⟩ := DataW.trod_int Try.underlying3 e1
      simp only [List.cons.injEq, and_true] at hh1
      obtain rfl := hh1
      have e2 : DataW.trod enc Try.prog w base spare held n 3 [c2] = some y2 := by simpa [k3] using hf 2 _ rfl
      obtain ⟨n2, hh2, _, w2⟩ := DataW.trod_int Try.underlying3 e2
      simp only [List.cons.injEq, and_true] at hh2
      obtain rfl := hh2
      have e3 : DataW.trod enc Try.prog w base spare held n 3 [c3] = some y3 := by simpa [k3] using hf 3 _ rfl
      obtain ⟨n3, hh3, _, w3⟩ := DataW.trod_int Try.underlying3 e3
      simp only [List.cons.injEq, and_true] at hh3
      obtain rfl := hh3
      exact ⟨n0, n1, n2, n3, rfl, w0, w1, w2, w3⟩

set_option maxRecDepth 100000 in
theorem opens91 {H : Type} {enc : TypeId × Value → H} {w : World} {base : Nat} {spare : Nat → Bool} {held : Bool} {fuel : Nat} {cs : List Value} {x : DataW H × List MemPlace} (h : DataW.trod enc Try.prog w base spare held fuel 91 cs = some x) :
    ∃ (n0 : Int) (n1 : Int) (n2 : Int) (n3 : Int) (n4 : Int) (n5 : Int) (n6 : Int), cs = [.int .i64 n0, .int .i64 n1, .int .i64 n2, .int .i64 n3, .int .i64 n4, .int .i64 n5, .int .i64 n6] ∧ (Lit.int .i64 n0).wf = true ∧ (Lit.int .i64 n1).wf = true ∧ (Lit.int .i64 n2).wf = true ∧ (Lit.int .i64 n3).wf = true ∧ (Lit.int .i64 n4).wf = true ∧ (Lit.int .i64 n5).wf = true ∧ (Lit.int .i64 n6).wf = true := by
  obtain ⟨xs, n, _, _, hlen, hxl, hf⟩ := DataW.trod_struct Try.underlying91 h
  have kt : Try.prog.cellsOf 91 = 7 := by kernel_rfl
  have k3 : Try.prog.cellsOf 3 = 1 := by kernel_rfl
  have k29 : Try.prog.cellsOf 29 = 2 := by kernel_rfl
  have k89 : Try.prog.cellsOf 89 = 4 := by kernel_rfl
  have hl : cs.length = 7 := hlen.trans kt
  have hx : xs.length = 3 := hxl
  clear hlen hxl kt
  match xs, hx with
  | [y0, y1, y2], _ =>
    match cs, hl with
    | [c0, c1, c2, c3, c4, c5, c6], _ =>
      have e0 : DataW.trod enc Try.prog w base spare held n 3 [c0] = some y0 := by simpa [k3] using hf 0 _ rfl
      obtain ⟨n0, hh0, _, w0⟩ := DataW.trod_int Try.underlying3 e0
      simp only [List.cons.injEq, and_true] at hh0
      obtain rfl := hh0
      have e1 : DataW.trod enc Try.prog w base spare held n 29 [c1, c2] = some y1 := by simpa [k29] using hf 1 _ rfl
      obtain ⟨n1, n2, hh1, w1, w2⟩ := opens29 e1
      simp only [List.cons.injEq, and_true] at hh1
      obtain ⟨rfl, rfl⟩ := hh1
      have e2 : DataW.trod enc Try.prog w base spare held n 89 [c3, c4, c5, c6] = some y2 := by simpa [k89] using hf 2 _ rfl
      obtain ⟨n3, n4, n5, n6, hh2, w3, w4, w5, w6⟩ := opens89 e2
      simp only [List.cons.injEq, and_true] at hh2
      obtain ⟨rfl, rfl, rfl, rfl⟩ := hh2
      exact ⟨n0, n1, n2, n3, n4, n5, n6, rfl, w0, w1, w2, w3, w4, w5, w6⟩

theorem C_of_slice {α : Type} (d : Kd α) (Q : α → Prop) {H : Type} {enc : TypeId × Value → H} {P : Program} {w : World} {base : Nat} {spare : Nat → Bool} {held : Bool} {t e : TypeId} {A : Option Addr} {len cap : Nat} {dd : DataW H} {ps : List MemPlace}
    (ht : P.underlying t = some (.slice e)) (hsz : P.cellsOf e = d.sz)
    (hop : ∀ {n : Nat} {cs : List Value} {x : DataW H × List MemPlace}, DataW.trod enc P w base spare held n e cs = some x → ∃ y, d.K w y cs ∧ Q y)
    (h : DataW.Trod enc P w base spare held t (.slice A len cap) dd ps) : ∃ l : List α, l.length = len ∧ Kd.C d w A l.length l ∧ l.length ≤ cap ∧ l.length ≤ maxLen ∧ ∀ y ∈ l, Q y := by
  obtain ⟨fuel, hf⟩ := h
  rcases Go.Deep.open_slice ht hf with ⟨hcs, _⟩ | ⟨a, len', cap', m, n, D, Pl, hcs, hb, hl, hm, hmm, hx, hi⟩
  · simp [Value.cells] at hcs
    obtain ⟨rfl, rfl, rfl⟩ := hcs
    exact ⟨[], rfl, ⟨rfl, by simp, fun h => absurd h (by simp)⟩, by simp, by simp, by simp⟩
  · simp [Value.cells] at hcs
    obtain ⟨rfl, rfl, rfl⟩ := hcs
    have hlm : len ≤ m := by rw [hmm]; split <;> omega
    have key : ∀ q, q ≤ len → ∃ l : List α, l.length = q ∧ (∀ y ∈ l, Q y) ∧ ∀ j p, l[j]? = some p → ∃ c, c.length = d.sz ∧ d.K w p c ∧ ∀ i u, c[i]? = some u → w.cell? (a.add (j * d.sz + i)) = some u := by
      intro q
      induction q with
      | zero => exact fun _ => ⟨[], rfl, by simp, by simp⟩
      | succ q ih =>
        intro hq
        obtain ⟨l, hll, hQ, hc⟩ := ih (by omega)
        obtain ⟨cs', hcc, ht'⟩ := hi q (by omega)
        obtain ⟨y, hk, hy⟩ := hop ht'
        obtain ⟨_, hcl, hat⟩ := World.cells?_some hcc
        refine ⟨l ++ [y], by simp [hll], fun z hz => ?_, fun j p hj => ?_⟩
        · rcases List.mem_append.1 hz with hz | hz
          · exact hQ z hz
          · rw [List.mem_singleton.1 hz]; exact hy
        · rcases Nat.lt_or_ge j l.length with hjl | hjl
          · rw [List.getElem?_append_left hjl] at hj
            exact hc j p hj
          · rw [List.getElem?_append_right hjl] at hj
            have hj0 : j = q := by
              rcases Nat.lt_or_ge (j - l.length) 1 with h1 | h1
              · omega
              · rw [List.getElem?_eq_none (by simpa using h1)] at hj
                exact absurd hj (by simp)
            subst hj0
            rw [hll, Nat.sub_self] at hj
            obtain rfl : y = p := by simpa using hj
            refine ⟨cs', hcl.trans hsz, hk, fun i u hu => ?_⟩
            have hil : i < P.cellsOf e := by rw [← hcl]; exact (List.getElem?_eq_some_iff.1 hu).1
            rw [← hsz, ← Go.Deep.add_add, hat i hil]
            exact hu
    obtain ⟨l, hll, hQ, hc⟩ := key len (Nat.le_refl _)
    have hmx : (maxLen : Nat) ≤ 9223372036854775807 := by unfold maxLen; omega
    subst hll
    exact ⟨l, rfl, ⟨rfl, by omega, fun _ => ⟨a, rfl, hc⟩⟩, hl, by omega, hQ⟩

set_option maxRecDepth 100000 in
theorem lifted (os : Os) (started : os.Started) (H : Type) (enc : TypeId × Value → H) :
    ReturnsInHanded {} Try.checked os 4 .any (Rows.fnExactTabFindSpec.pre6 enc Try.prog Try.f4 Rows.fnExactTabFindRow.domain false) (Rows.fnExactTabFindSpec.post enc Try.prog Try.f4 false true false false) := by
  refine returnsInHanded_of_change_sized (C := Try.checked) own started (by kernel_rfl) Try.func4
    (ChangeSpec.witness6 (enc := enc) (C := Try.checked) false ⟨#[], #[.slice none 0 0, .int .i64 0, .agg #[.int .i64 0, .int .i64 0]], []⟩ 8 (by kernel_rfl) (by kernel_rfl) (by kernel_rfl) (by kernel_rfl)) ?_
  intro W base args ds gs before hval0 hW hcnd hsz0 _
  have hsz : (DataW.weightsEach Try.prog (Try.f4.params.toList ++ Rows.fnExactTabFindSpec.plain.varTypes Try.prog) (ds ++ gs)).all (· ≤ reachBytes) = true := hsz0
  have hval : ∀ (j : Nat) t v, Try.f4.params[j]? = some t → args[j]? = some v → Value.okWide Try.prog W .any base t v := hval0
  have hW' := hW
  obtain ⟨p, q, hA0, hV, rfl, hfz, hnd⟩ := hW
  have hA : DataW.TrodAll enc Try.prog W 0 (fun _ => true) true Try.f4.params.toList args.toList ds p := hA0
  rw [Try.params4] at hA hval hsz
  obtain ⟨v0, vs0, d0, ds0, p0, q0, hargs, rfl, rfl, h0, r0⟩ := trodAll_cons hA
  obtain ⟨v1, vs1, d1, ds1, p1, q1, rfl, rfl, rfl, h1, r1⟩ := trodAll_cons r0
  obtain ⟨v2, vs2, d2, ds2, p2, q2, rfl, rfl, rfl, h2, r2⟩ := trodAll_cons r1
  obtain ⟨rfl, rfl, rfl⟩ := trodAll_nil r2
  obtain rfl : args = #[v0, v1, v2] := by cases args; simp_all
  obtain ⟨rfl, rfl⟩ := trodVars_none hV
  have k0 := h0
  have lt0 : ∀ x ∈ p0, x.block < W.heap.size := by obtain ⟨m, hm⟩ := k0; exact DataW.trod_lt m _ _ _ hm
  obtain ⟨A0, len0, c0, rfl⟩ := okWide_slice Try.underlying22 (hval 0 22 v0 rfl rfl)
  obtain ⟨l0, hll0, hr0, hc0, hm0, hq0⟩ := C_of_slice k91 (fun x : S91 => (Lit.int .i64 x.f0).wf = true ∧ (Lit.int .i64 x.f1.f0).wf = true ∧ (Lit.int .i64 x.f1.f1).wf = true ∧ (Lit.int .i64 x.f2.f0).wf = true ∧ (Lit.int .i64 x.f2.f1).wf = true ∧ (Lit.int .i64 x.f2.f2).wf = true ∧ (Lit.int .i64 x.f2.f3).wf = true) Try.underlying22 (by kernel_rfl) (fun {_ _ _} ht => by
    obtain ⟨n0, n1, n2, n3, n4, n5, n6, rfl, w0, w1, w2, w3, w4, w5, w6⟩ := opens91 ht
    exact ⟨⟨n0, ⟨n1, n2⟩, ⟨n3, n4, n5, n6⟩⟩, k91_mk _ _, ⟨w0, w1, w2, w3, w4, w5, w6⟩⟩) h0
  subst hll0
  obtain ⟨a1, rfl, rfl, rfl, w1⟩ := open_int Try.underlying3 (hval 1 3 v1 rfl rfl) h1
  have k2 := h2
  have lt2 : ∀ x ∈ p2, x.block < W.heap.size := by obtain ⟨m, hm⟩ := k2; exact DataW.trod_lt m _ _ _ hm
  obtain ⟨cs2, rfl, _⟩ := okWide_struct Try.underlying29 (hval 2 29 v2 rfl rfl)
  obtain ⟨fu2, hf2⟩ := h2
  obtain ⟨a2_0, a2_1, hcs2, u2_0, u2_1⟩ := opens29 hf2
  obtain rfl : cs2 = #[.int .i64 a2_0, .int .i64 a2_1] := by cases cs2; simpa [Value.cells] using hcs2
  clear hf2 hcs2
  clear hA0 hval0 hsz0 hsz
  obtain ⟨k, hp⟩ := Pure.FnExactTabFind l0 hm0 hq0 a1 w1 a2_0 a2_1 u2_0 u2_1
  refine (laws_FnExactTabFind.calls k _ _ l0 a1 a2_0 a2_1 true W hr0 hc0 hp).mono fun e W' ⟨he, bel0⟩ => ?_
  have bel : Below W.heap.size W W' := by first | exact bel0 | exact bel0.below
  subst he
  exact ⟨_, rfl, _, _, _, [], _, [], hW', trodAll_mk1 (shut_bool Try.underlying4 _), (trodAll_cons_mk (Below.trod laidOut (by kernel_rfl) (of_decide_eq_true (by kernel_rfl)) k0 bel lt0) (trodAll_cons_mk (shut_int Try.underlying3 w1) (trodAll_cons_mk (Below.trod laidOut (by kernel_rfl) (of_decide_eq_true (by kernel_rfl)) k2 bel lt2) trodAll_mk0))), rfl, bel.frame _, fun h => by cases h⟩
theorem over : Rows.fnExactTabFindRow.holds Try.pinned (OpenSpec.ofChange Rows.fnExactTabFindSpec) :=
  OpenClaim.holds_of_wide 4 Try.f4 rfl rfl rfl rfl rfl rfl rfl ⟨rfl, rfl, rfl, rfl, rfl⟩ rfl rfl rfl rfl rfl (by kernel_rfl) Try.func4 (by kernel_rfl)
    (of_decide_eq_true (by kernel_rfl)) (by unfold Func.isWrapper; first | (rw [if_pos (by decide +kernel)]; kernel_rfl) | (rw [if_neg (by decide +kernel)]; exact ⟨rfl, rfl⟩))
    (fun os started H enc _ => lifted os started H enc)
theorem proved : Rows.FnExactTabFindSaid := over
#print axioms proved
end Go.Proofs.Ytkmckalckafloaa.fnExactTabFind
namespace Go.Proofs.Ytkmckalckafloaa
/-- The row, under a short name, for the claim. -/
theorem fnExactTabFind_holds : Rows.FnExactTabFindSaid := fnExactTabFind.proved
end Go.Proofs.Ytkmckalckafloaa
