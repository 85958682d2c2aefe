/- The law over numbers and lists: sizes, copies, comparisons of strings; and the law's call, all told. -/
import Derived.Test.YtgmkfhgebinfgaaDoorPure2
import Derived.Test.YtgmkfhgebinfgaaDoorLawk
set_option linter.unusedVariables false
set_option linter.unusedSimpArgs false
namespace Go.Proofs.YtgmkfhgebinfgaaDoor.Num
open Go.RowKit Go.Proofs.YtgmkfhgebinfgaaDoorW.PrintWords Go.Proofs.YtgmkfhgebinfgaaDoorW.PrintLast Go.Proofs.YtgmkfhgebinfgaaDoor.PFnExactJobParse Go.Proofs.YtgmkfhgebinfgaaDoor.Aid

theorem rdS (l : List ByteArray) (j : Nat) (h : j < l.length) : rdOf ByteArray.empty l (j : Int) = l[j] := by
  unfold rdOf
  rw [Int.toNat_natCast, List.getD_eq_getElem?_getD, List.getElem?_eq_getElem h]
  rfl
theorem sz_ev (l : List ByteArray) (hm : l.length ≤ 9223372036854775807) (hs : ∀ x ∈ l, x.size ≤ 9223372036854775807) : ∃ r, Ev (fun k => laws_szStringS.f k l 1048576) r ∧ (r < 0 ∨ (0 ≤ r ∧ l.length ≤ 1048576 ∧ ∀ x ∈ l, x.size ≤ 1048576)) := by
  have hw : wrap64 ((1048576 : Int) - (l.length : Int)) = 1048576 - (l.length : Int) := wrap_id (by omega) (by omega)
  unfold laws_szStringS.f
  simp only [hw]
  by_cases h0 : (1048576 : Int) - (l.length : Int) < 0
  · simp only [if_pos h0]
    exact ⟨-1, Ev.now _, .inl (by omega)⟩
  · simp only [if_neg h0]
    have h := loop (fun k s i => laws_szStringS.l0 k l s i) l.length (fun j s => 0 ≤ s ∧ s ≤ 1048576 ∧ ∀ i (hi : i < l.length), i < j → l[i].size ≤ 1048576) (fun r => r < 0 ∨ (0 ≤ r ∧ ∀ x ∈ l, x.size ≤ 1048576))
      (fun j s hj hi => by
        obtain ⟨i1, i2, i3⟩ := hi
        have hx := hs _ (List.getElem_mem hj)
        have hw2 : wrap64 (s - (l[j].size : Int)) = s - (l[j].size : Int) := wrap_id (by omega) (by omega)
        by_cases hc : s - (l[j].size : Int) < 0
        · refine .inr ⟨-1, Ev_now1 (fun k => ?_), .inl (by omega)⟩
          simp only [laws_szStringS.l0]
          rw [if_pos (by omega), if_pos (by omega), rdS l j hj, hw2, if_pos hc]
        · refine .inl ⟨s - (l[j].size : Int), ⟨by omega, by omega, fun i hi hij => ?_⟩, fun r hr => Ev_eq hr (fun k => ?_)⟩
          · by_cases e : i = j
            · subst e
              omega
            · exact i3 i hi (by omega)
          · simp only [laws_szStringS.l0]
            rw [if_pos (by omega), if_pos (by omega), rdS l j hj, hw2, if_neg hc, wrap_nat hj (by omega)])
      (fun s hi => ⟨s, Ev_now1 (fun k => by simp only [laws_szStringS.l0]; rw [if_neg (by omega)]), .inr ⟨hi.1, fun x hx => by
        obtain ⟨i, hi2, rfl⟩ := List.mem_iff_getElem.1 hx
        exact hi.2.2 i hi2 hi2⟩⟩) (1048576 - (l.length : Int)) ⟨by omega, by omega, fun i hi h => absurd h (Nat.not_lt_zero _)⟩
    obtain ⟨r, h1, h2⟩ := h
    refine ⟨r, h1, ?_⟩
    rcases h2 with h2 | ⟨h2, h3⟩
    · exact .inl h2
    · exact .inr ⟨h2, by omega, h3⟩
theorem to_ev (l : List ByteArray) (hl : l.length ≤ 1048576) : Ev (fun k => laws_toStringS.f k l) l := by
  have h := loop (fun k s i => laws_toStringS.l0 k l s i) l.length (fun j s => s.length = l.length ∧ ∀ i (hi : i < l.length), i < j → s[i]? = some l[i]) (fun r => r = l)
    (fun j s hj hi => by
      obtain ⟨h1, h2⟩ := hi
      refine .inl ⟨s.set j l[j], ⟨by simp [h1], fun i hi hij => ?_⟩, fun r hr => Ev_eq hr (fun k => ?_)⟩
      · rw [List.getElem?_set]
        by_cases e : j = i
        · subst e
          simp [h1, hi]
        · simp only [e, if_false]
          exact h2 i hi (by omega)
      · simp only [laws_toStringS.l0]
        rw [if_pos (by omega), if_pos (by omega), if_pos (by omega), rdS l j hj, wrap_nat hj (by omega), Int.toNat_natCast])
    (fun s hi => ⟨s, Ev_now1 (fun k => by simp only [laws_toStringS.l0]; rw [if_neg (by omega)]), by
      obtain ⟨h1, h2⟩ := hi
      apply List.ext_getElem?
      intro i
      rcases Nat.lt_or_ge i l.length with hi | hi
      · rw [h2 i hi hi, List.getElem?_eq_getElem hi]
      · rw [List.getElem?_eq_none (by omega), List.getElem?_eq_none hi]⟩)
    (List.replicate l.length ⟨#[]⟩) ⟨by simp, fun i _ h => absurd h (Nat.not_lt_zero _)⟩
  obtain ⟨r, hr, rfl⟩ := h
  refine Ev.congr (fun k => ?_) hr
  unfold laws_toStringS.f
  rw [if_pos (by omega), Int.toNat_natCast, if_pos (by omega)]
theorem eq_ev (l : List ByteArray) (hl : l.length ≤ 1048576) : Ev (fun k => laws_eqStringS.f k l l) true := by
  have h := loop (fun k (_ : Unit) i => laws_eqStringS.l0 k l l i) l.length (fun _ _ => True) (fun r => r = true)
    (fun j s hj _ => .inl ⟨(), trivial, fun r hr => Ev_eq hr (fun k => by
      simp only [laws_eqStringS.l0]
      rw [if_pos (by omega), if_pos (by omega), if_pos (by omega), if_pos trivial, wrap_nat hj (by omega)])⟩)
    (fun s _ => ⟨true, Ev_now1 (fun k => by simp only [laws_eqStringS.l0]; rw [if_neg (by omega)]), rfl⟩) () trivial
  obtain ⟨r, hr, rfl⟩ := h
  refine Ev.congr (fun k => ?_) hr
  unfold laws_eqStringS.f
  rw [if_pos rfl]
/-- The law, at every rows of strings that can be read. -/
theorem law_any (A0 : Option Addr) (c0 : Nat) (lines : List ByteArray) (w : World) (hr0 : Kd.C Kd.string w A0 lines.length lines) (hc0 : lines.length ≤ c0) (hs : ∀ x ∈ lines, x.size ≤ 9223372036854775807) (hg : Gl w) :
    Calls Tryd.prog 3 #[.slice A0 lines.length c0] w fun e w' => e = .returned (.bool true) ∧ Below w.heap.size w w' := by
  obtain ⟨r, ⟨K, hK⟩, h⟩ := sz_ev lines hr0.2.1 hs
  rcases h with h | ⟨h, hl, hz⟩
  · exact law_short A0 c0 K lines w hr0 hc0 r (hK K (Nat.le_refl _)) h
  · obtain ⟨K1, h1⟩ := to_ev lines hl
    obtain ⟨K2, h2⟩ := eq_ev lines hl
    obtain ⟨K3, h3⟩ := job_ev lines (by omega)
    refine law_long A0 c0 K K1 K2 lines w hr0 hc0 hg r (hK K (Nat.le_refl _)) h (fun x hx => by have := hz x hx; omega) (h1 K1 (Nat.le_refl _)) (h2 K2 (Nat.le_refl _)) (fun A c W hC hc => ?_)
    refine (spec_JobParse.calls K3 A c lines _ _ _ _ _ _ _ _ _ _ _ W hC hc (h3 K3 (Nat.le_refl _))).mono fun e w' hw => ?_
    exact ⟨hw.1, hw.2⟩
end Go.Proofs.YtgmkfhgebinfgaaDoor.Num
