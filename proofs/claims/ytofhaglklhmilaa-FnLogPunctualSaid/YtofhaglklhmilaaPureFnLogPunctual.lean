/- The law FnLogPunctual over numbers and lists: the Lean function of it that was printed answers true. No condition but that each number is one of its kind. -/
import Derived.Test.YtofhaglklhmilaaQFnLogPunctualx6
import Derived.Test.YtofhaglklhmilaaAid
set_option linter.unusedVariables false
set_option linter.unusedSimpArgs false
namespace Go.Proofs.Ytofhaglklhmilaa.Pure
open Go.RowKit Go.Proofs.Ytofhaglklhmilaa.PFnLogPunctual Go.Proofs.YtofhaglklhmilaaW.PrintWords Go.Proofs.YtofhaglklhmilaaW.PrintLast Go.Proofs.Ytofhaglklhmilaa.Aid

theorem rd47_at (l : List S47) (j : Nat) (h : j < l.length) : rd_T47 l (j : Int) = l[j] := by simp [rd_T47, List.getD_eq_getElem?_getD, h]
/-- A code that may be read: bytes, not too many. -/
def Code (b : List Int) : Prop := b.length ≤ 2000 ∧ ∀ x ∈ b, 0 ≤ x ∧ x ≤ 255
theorem code_rd {b : List Int} (hb : Code b) (i : Int) : 0 ≤ rd b i ∧ rd b i ≤ 255 := by
  unfold rd
  rw [List.getD_eq_getElem?_getD]
  rcases Nat.lt_or_ge i.toNat b.length with h | h
  · rw [List.getElem?_eq_getElem h]
    exact hb.2 _ (List.getElem_mem h)
  · rw [List.getElem?_eq_none h]
    exact ⟨Int.le_refl _, by decide⟩
theorem xor_pos (x y : Int) (hx : 0 ≤ x ∧ x < 4611686018427387904) (hy : 0 ≤ y ∧ y < 4611686018427387904) : 0 ≤ Go.bits .xor .i64 x y := by
  obtain ⟨a, rfl⟩ := Int.eq_ofNat_of_zero_le hx.1
  obtain ⟨b, rfl⟩ := Int.eq_ofNat_of_zero_le hy.1
  have ha : a < 2 ^ 62 := by omega
  have hb : b < 2 ^ 62 := by omega
  have ha' : a % 2 ^ IntKind.i64.bits = a := Nat.mod_eq_of_lt (Nat.lt_of_lt_of_le ha (by decide))
  have hb' : b % 2 ^ IntKind.i64.bits = b := Nat.mod_eq_of_lt (Nat.lt_of_lt_of_le hb (by decide))
  have hxr : a ^^^ b < 2 ^ 62 := Nat.xor_lt_two_pow ha hb
  simp only [Go.bits, BitVec.ofInt_natCast, BitVec.toNat_xor, BitVec.toNat_ofNat, ha', hb']
  rw [IntKind.wrap_i64]
  have : ((a ^^^ b : Nat) : Int) < 2 ^ 62 := by exact_mod_cast hxr
  omega
theorem tmod_in (x n : Int) (hx : 0 ≤ x) (hn : 1 ≤ n) : 0 ≤ Int.tmod x n ∧ Int.tmod x n < n :=
  ⟨Int.tmod_nonneg _ hx, Int.tmod_lt_of_pos _ (by omega)⟩
theorem pick_ev {b : List Int} (hb : Code b) {p : Int} (hp : 0 ≤ p ∧ p ≤ 1000000000) {n : Int} (hn : 1 ≤ n) : ∃ v, Ev (fun k => spec_l20Rd_pick.f k b p n) (v, p + 1) ∧ 0 ≤ v ∧ v < n := by
  have hl := hb.1
  have hw : wrap64 (p + 1) = p + 1 := wrap_id (by omega) (by omega)
  have hw2 : wrap64 (p + 1 - 1) = p := by rw [wrap_id (by omega) (by omega)]; omega
  have e0 : ∀ k, spec_l20Rd_pick.f k b p n = spec_l20Rd_pick.j0 k n ((b.length : Int) == 0) b (p + 1) := fun k => by
    unfold spec_l20Rd_pick.f
    rw [if_neg (by omega), hw]
  by_cases hz : b.length = 0
  · refine ⟨0, Ev.congr e0 (Ev_now1 (fun k => ?_)), by omega, by omega⟩
    simp only [spec_l20Rd_pick.j0]
    rw [if_pos (by simp [hz])]
  · have hz' : ((b.length : Int) == 0) = false := by simpa using hz
    have hlp : (1 : Int) ≤ (b.length : Int) := by omega
    rw [hz'] at e0
    by_cases h1 : p < (b.length : Int)
    · have hr := code_rd hb p
      have hwr : wrap64 (rd b p) = rd b p := wrap_id (by omega) (by omega)
      obtain ⟨t0, t1⟩ := tmod_in (rd b p) n hr.1 hn
      refine ⟨Int.tmod (rd b p) n, Ev.congr e0 (Ev_now1 (fun k => ?_)), t0, t1⟩
      simp only [spec_l20Rd_pick.j0]
      rw [if_neg (by simp), hw2, if_pos h1, if_pos hp.1, if_neg (by omega), hwr]
    · obtain ⟨t0, t1⟩ := tmod_in p (b.length : Int) hp.1 hlp
      have w7 : wrap64 (p * 7) = p * 7 := wrap_id (by omega) (by omega)
      have w73 : wrap64 (p * 7 + 3) = p * 7 + 3 := wrap_id (by omega) (by omega)
      obtain ⟨s0, s1⟩ := tmod_in (p * 7 + 3) (b.length : Int) (by omega) hlp
      have ra := code_rd hb (Int.tmod p (b.length : Int))
      have rb := code_rd hb (Int.tmod (p * 7 + 3) (b.length : Int))
      have hd0 : 0 ≤ Int.tdiv p (b.length : Int) := Int.tdiv_nonneg hp.1 (by omega)
      have hd1 : Int.tdiv p (b.length : Int) ≤ p := by
        rw [Int.tdiv_eq_ediv_of_nonneg hp.1]
        exact Int.ediv_le_self _ hp.1
      generalize hA : rd b (Int.tmod p (b.length : Int)) = A at ra
      generalize hB : rd b (Int.tmod (p * 7 + 3) (b.length : Int)) = B at rb
      generalize hD : Int.tdiv p (b.length : Int) = D at hd0 hd1
      have v1 : wrap64 A = A := wrap_id (by omega) (by omega)
      have v2 : wrap64 (A * 131) = A * 131 := wrap_id (by omega) (by omega)
      have v3 : wrap64 B = B := wrap_id (by omega) (by omega)
      have v4 : wrap64 (B * 1117) = B * 1117 := wrap_id (by omega) (by omega)
      have v5 : wrap64 (A * 131 + B * 1117) = A * 131 + B * 1117 := wrap_id (by omega) (by omega)
      have v6 : wrap64 (p * 29) = p * 29 := wrap_id (by omega) (by omega)
      have v7 : wrap64 (A * 131 + B * 1117 + p * 29) = A * 131 + B * 1117 + p * 29 := wrap_id (by omega) (by omega)
      have v8 : wrap64 D = D := wrap_id (by omega) (by omega)
      have v9 : wrap64 (D * 53) = D * 53 := wrap_id (by omega) (by omega)
      have v10 : wrap64 (A * 131 + B * 1117 + p * 29 + D * 53) = A * 131 + B * 1117 + p * 29 + D * 53 := wrap_id (by omega) (by omega)
      have hx0 : 0 ≤ A * 131 + B * 1117 + p * 29 + D * 53 ∧ A * 131 + B * 1117 + p * 29 + D * 53 < 4611686018427387904 := by omega
      generalize hX : A * 131 + B * 1117 + p * 29 + D * 53 = X at v10 hx0
      have hq0 : 0 ≤ Int.tdiv X 64 := Int.tdiv_nonneg hx0.1 (by omega)
      have hq1 : Int.tdiv X 64 ≤ X := by
        rw [Int.tdiv_eq_ediv_of_nonneg hx0.1]
        omega
      have v11 : wrap64 (Int.tdiv X 64) = Int.tdiv X 64 := wrap_id (by omega) (by omega)
      have hxor := xor_pos X (Int.tdiv X 64) hx0 ⟨hq0, by omega⟩
      obtain ⟨u0, u1⟩ := tmod_in _ n hxor hn
      refine ⟨Int.tmod (Go.bits .xor .i64 X (Int.tdiv X 64)) n, Ev.congr e0 (Ev_now1 (fun k => ?_)), u0, u1⟩
      simp only [spec_l20Rd_pick.j0]
      rw [if_neg (by simp), hw2, if_neg h1, if_neg (by omega), if_pos t0, if_pos t1]
      simp only [w7, w73]
      rw [if_pos s0, if_pos s1, if_neg (by omega)]
      simp only [hA, hB, hD, v1, v2, v3, v4, v5, v6, v7, v8, v9, v10, hX, v11]
theorem open_ev {l : List Int} (hl : l.length ≤ 1048576) (hb : ∀ x ∈ l, (Lit.int .u8 x).wf = true) : ∃ b, spec_l20Open.f l = some (b, 0) ∧ Code b := by
  have hx : ∀ x ∈ l, 0 ≤ x ∧ x ≤ 255 := fun x h => by
    have := hb x h
    simp only [Lit.wf, Bool.and_eq_true, decide_eq_true_eq] at this
    have a : IntKind.u8.min = 0 := by decide
    have b : IntKind.u8.max = 255 := by decide
    omega
  unfold spec_l20Open.f
  by_cases h : (l.length : Int) > 2000
  · rw [if_pos h, if_pos (by omega)]
    exact ⟨_, rfl, by simp; omega, fun x hm => hx x (List.mem_of_mem_take hm)⟩
  · rw [if_neg h]
    exact ⟨_, rfl, by omega, hx⟩
theorem rdlit (xs : List Int) (i : Int) (h0 : 0 ≤ i) (h1 : i < (xs.length : Int)) : rd xs i ∈ xs := by
  unfold rd
  have h : i.toNat < xs.length := by omega
  rw [List.getD_eq_getElem?_getD, List.getElem?_eq_getElem h]
  exact List.getElem_mem h
theorem rec_ev {b : List Int} (hb : Code b) {p : Int} (hp : 0 ≤ p ∧ p ≤ 999999900) : ∃ x0 x1 x2 x3 x4 q, Ev (fun k => spec_l20Rec.f k b p) (x0, x1, x2, x3, x4, q) ∧ p ≤ q ∧ q ≤ p + 4 ∧ x1 ≤ 1000 := by
  obtain ⟨v1, e1, a1, b1⟩ := pick_ev hb (p := p) (by omega) (n := 61) (by omega)
  obtain ⟨v2, e2, a2, b2⟩ := pick_ev hb (p := p + 1) (by omega) (n := 6) (by omega)
  obtain ⟨v3, e3, a3, b3⟩ := pick_ev hb (p := p + 1 + 1) (by omega) (n := 4) (by omega)
  obtain ⟨v4, e4, a4, b4⟩ := pick_ev hb (p := p + 1 + 1 + 1) (by omega) (n := 19) (by omega)
  have l1 : v2 < (([0, 1, 5, 20, 60, v1] : List Int).length : Int) := by simpa using b2
  have hm := rdlit _ v2 a2 l1
  simp only [List.mem_cons, List.not_mem_nil, or_false] at hm
  refine ⟨?_, ?_, ?_, ?_, ?_, ?_, ?e, ?_, ?_, ?_⟩
  case e =>
    unfold spec_l20Rec.f
    refine Ev.bind e1 ?_
    simp only [Option.bind_some]
    refine Ev.bind e2 ?_
    simp only [if_pos a2, if_pos l1]
    refine Ev.bind e3 (Ev.bind e4 ?_)
    exact Ev.now _
  all_goals omega
theorem itemj_ev {b : List Int} (hb : Code b) {p : Int} (hp : 0 ≤ p ∧ p ≤ 999999900) {n : Int} (hn : 1 ≤ n) (y0 y1 y2 y3 y4 : Int) (hy : y1 ≤ 1000) : ∃ x0 x1 x2 x3 x4 q, Ev (fun k => spec_l20Item.j0 k n b p y0 y1 y2 y3 y4) (x0, x1, x2, x3, x4, q) ∧ p ≤ q ∧ q ≤ p + 3 ∧ x1 ≤ 1000 := by
  obtain ⟨v1, e1, a1, b1⟩ := pick_ev hb (p := p) (by omega) (n := n) hn
  by_cases h1 : v1 > 0
  · refine ⟨?_, ?_, ?_, ?_, ?_, ?_, Ev.step (fun k => by simp only [spec_l20Item.j0]; rfl) (Ev.bind e1 ?e), ?_, ?_, ?_⟩
    case e =>
      simp only [if_pos h1]
      exact Ev.now _
    all_goals omega
  · obtain ⟨v2, e2, a2, b2⟩ := pick_ev hb (p := p + 1) (by omega) (n := 7) (by omega)
    obtain ⟨v3, e3, a3, b3⟩ := pick_ev hb (p := p + 1 + 1) (by omega) (n := 5) (by omega)
    have l1 : v2 < (([(-1), 0, 61, 4, 10, 1000, 901] : List Int).length : Int) := by simpa using b2
    have hm := rdlit _ v2 a2 l1
    simp only [List.mem_cons, List.not_mem_nil, or_false] at hm
    by_cases c0 : v3 = 0
    · refine ⟨?_, ?_, ?_, ?_, ?_, ?_, Ev.step (fun k => by simp only [spec_l20Item.j0]; rfl) (Ev.bind e1 ?e), ?_, ?_, ?_⟩
      case e =>
        simp only [if_neg h1, Option.bind_some]
        refine Ev.bind e2 ?_
        simp only [if_pos a2, if_pos l1]
        refine Ev.bind e3 ?_
        simp only [if_pos c0]
        exact Ev.now _
      all_goals omega
    by_cases c1 : v3 = 1
    · refine ⟨?_, ?_, ?_, ?_, ?_, ?_, Ev.step (fun k => by simp only [spec_l20Item.j0]; rfl) (Ev.bind e1 ?e), ?_, ?_, ?_⟩
      case e =>
        simp only [if_neg h1, Option.bind_some]
        refine Ev.bind e2 ?_
        simp only [if_pos a2, if_pos l1]
        refine Ev.bind e3 ?_
        simp only [if_neg c0, if_pos c1]
        exact Ev.now _
      all_goals omega
    by_cases c2 : v3 = 2
    · refine ⟨?_, ?_, ?_, ?_, ?_, ?_, Ev.step (fun k => by simp only [spec_l20Item.j0]; rfl) (Ev.bind e1 ?e), ?_, ?_, ?_⟩
      case e =>
        simp only [if_neg h1, Option.bind_some]
        refine Ev.bind e2 ?_
        simp only [if_pos a2, if_pos l1]
        refine Ev.bind e3 ?_
        simp only [if_neg c0, if_neg c1, if_pos c2]
        exact Ev.now _
      all_goals omega
    by_cases c3 : v3 = 3
    · refine ⟨?_, ?_, ?_, ?_, ?_, ?_, Ev.step (fun k => by simp only [spec_l20Item.j0]; rfl) (Ev.bind e1 ?e), ?_, ?_, ?_⟩
      case e =>
        simp only [if_neg h1, Option.bind_some]
        refine Ev.bind e2 ?_
        simp only [if_pos a2, if_pos l1]
        refine Ev.bind e3 ?_
        simp only [if_neg c0, if_neg c1, if_neg c2, if_pos c3]
        exact Ev.now _
      all_goals omega
    · refine ⟨?_, ?_, ?_, ?_, ?_, ?_, Ev.step (fun k => by simp only [spec_l20Item.j0]; rfl) (Ev.bind e1 ?e), ?_, ?_, ?_⟩
      case e =>
        simp only [if_neg h1, Option.bind_some]
        refine Ev.bind e2 ?_
        simp only [if_pos a2, if_pos l1]
        refine Ev.bind e3 ?_
        simp only [if_neg c0, if_neg c1, if_neg c2, if_neg c3]
        exact Ev.now _
      all_goals omega
theorem item_ev {b : List Int} (hb : Code b) {p : Int} (hp : 0 ≤ p ∧ p ≤ 999999800) {n : Int} (hn : 1 ≤ n) : ∃ x0 x1 x2 x3 x4 q, Ev (fun k => spec_l20Item.f k b p n) (x0, x1, x2, x3, x4, q) ∧ p ≤ q ∧ q ≤ p + 9 ∧ x1 ≤ 1000 := by
  obtain ⟨y0, y1, y2, y3, y4, q1, e1, a1, b1⟩ := rec_ev hb (p := p) (by omega)
  obtain ⟨v2, e2, a2, b2⟩ := pick_ev hb (p := q1) (by omega) (n := 4) (by omega)
  by_cases h0 : v2 = 0
  · obtain ⟨v3, e3, a3, b3⟩ := pick_ev hb (p := q1 + 1) (by omega) (n := 4) (by omega)
    have l1 : v3 < (([1, 10, 60, 1000] : List Int).length : Int) := by simpa using b3
    obtain ⟨x0, x1, x2, x3, x4, q, e4, a4, b4⟩ := itemj_ev hb (p := q1 + 1 + 1) (by omega) hn 2 (rd [1, 10, 60, 1000] v3) 0 0 0 (by have hm := rdlit _ v3 a3 l1; simp only [List.mem_cons, List.not_mem_nil, or_false] at hm; omega)
    refine ⟨x0, x1, x2, x3, x4, q, ?_, by omega, by omega, by omega⟩
    unfold spec_l20Item.f
    refine Ev.bind e1 (Ev.bind e2 ?_)
    simp only [if_pos h0, Option.bind_some]
    refine Ev.bind e3 ?_
    simp only [if_pos a3, if_pos l1]
    exact e4
  by_cases h1 : v2 = 1
  · obtain ⟨v3, e3, a3, b3⟩ := pick_ev hb (p := q1 + 1) (by omega) (n := 3) (by omega)
    have l1 : v3 < (([1, 2, 900] : List Int).length : Int) := by simpa using b3
    obtain ⟨x0, x1, x2, x3, x4, q, e4, a4, b4⟩ := itemj_ev hb (p := q1 + 1 + 1) (by omega) hn 3 0 0 0 (rd [1, 2, 900] v3) (by omega)
    refine ⟨x0, x1, x2, x3, x4, q, ?_, by omega, by omega, by omega⟩
    unfold spec_l20Item.f
    refine Ev.bind e1 (Ev.bind e2 ?_)
    simp only [if_neg h0, if_pos h1, Option.bind_some]
    refine Ev.bind e3 ?_
    simp only [if_pos a3, if_pos l1]
    exact e4
  · obtain ⟨x0, x1, x2, x3, x4, q, e4, a4, b4⟩ := itemj_ev hb (p := q1 + 1) (by omega) hn y0 y1 y2 y3 y4 (by omega)
    refine ⟨x0, x1, x2, x3, x4, q, ?_, by omega, by omega, by omega⟩
    unfold spec_l20Item.f
    refine Ev.bind e1 (Ev.bind e2 ?_)
    simp only [if_neg h0, if_neg h1]
    exact e4
theorem ite_ex {α : Type} {R : α → Prop} {c : Prop} [Decidable c] {f g : Nat → Option α} (h1 : c → ∃ r, Ev f r ∧ R r) (h2 : ¬ c → ∃ r, Ev g r ∧ R r) : ∃ r, Ev (fun k => if c then f k else g k) r ∧ R r := by
  by_cases h : c
  · simp only [if_pos h]
    exact h1 h
  · simp only [if_neg h]
    exact h2 h
theorem bind_ex {α β : Type} {R : β → Prop} {f : Nat → Option α} {a : α} (h : Ev f a) {g : Nat → α → Option β} (hg : ∃ r, Ev (fun k => g k a) r ∧ R r) : ∃ r, Ev (fun k => (f k).bind (g k)) r ∧ R r := by
  obtain ⟨r, hr, h2⟩ := hg
  exact ⟨r, Ev.bind h hr, h2⟩
theorem step_ex {α : Type} {R : α → Prop} {g f : Nat → Option α} (h : ∀ k, g (k + 1) = f k) (hf : ∃ r, Ev f r ∧ R r) : ∃ r, Ev g r ∧ R r := by
  obtain ⟨r, hr, h2⟩ := hf
  exact ⟨r, Ev.step h hr, h2⟩
theorem now_ex {α : Type} {R : α → Prop} (r : α) (h : R r) : ∃ r, Ev (fun _ => some r) r ∧ R r := ⟨r, Ev.now r, h⟩
theorem hadd (l : List S47) (y : S47) (h : ∀ x ∈ l, x.f1 ≤ 9223372036854775807) (hy : y.f1 ≤ 9223372036854775807) : ∀ x ∈ l ++ [y], x.f1 ≤ 9223372036854775807 := fun x hx => by
  rcases List.mem_append.mp hx with hx | hx
  · exact h x hx
  · rw [List.mem_singleton.mp hx]
    exact hy
theorem log_loop {b : List Int} (hb : Code b) (N : Int) (hN : N ≤ 16) (bh : Int) (d : Nat) : ∀ (l : List S47) (t m i p : Int), i + d = N → 0 ≤ i → (l.length : Int) ≤ i → 0 ≤ p → p + d * 20 ≤ 999990000 → (∀ x ∈ l, x.f1 ≤ 9223372036854775807) → ∃ r : List S47 × Int, Ev (fun k => spec_l20Log.l0 k N l t m bh i b p) r ∧ (1 ≤ r.1.length ∧ (r.1.length : Int) ≤ N + 1 ∧ p ≤ r.2 ∧ r.2 ≤ p + d * 20 ∧ ∀ x ∈ r.1, x.f1 ≤ 9223372036854775807) := by
  induction d with
  | zero =>
    intro l t m i p hi hi0 hl hp0 hp1 hv
    exact ⟨(l ++ [⟨2, 1000, 0, 0, 0⟩], p), Ev_now1 (fun k => by simp only [spec_l20Log.l0]; rw [if_neg (by omega), if_pos (by omega)]), by first | (simp; done) | (simp; omega), by simp only [List.length_append, List.length_cons, List.length_nil]; omega, by simp only; omega, by simp only; omega, hadd l _ hv (by simp only; omega)⟩
  | succ d ih =>
    intro l t m i p hi hi0 hl hp0 hp1 hv
    obtain ⟨v1, e1, a1, b1⟩ := pick_ev hb (p := p) (by omega) (n := 6) (by omega)
    obtain ⟨v2, e2, a2, b2⟩ := pick_ev hb (p := p + 1) (by omega) (n := 4) (by omega)
    have hw : wrap64 (i + 1) = i + 1 := wrap_id (by omega) (by omega)
    have again : ∀ (l' : List S47) (t' m' q : Int), (l'.length : Int) ≤ i + 1 → p ≤ q → q ≤ p + 20 → (∀ x ∈ l', x.f1 ≤ 9223372036854775807) → ∃ r : List S47 × Int, Ev (fun k => spec_l20Log.l0 k N l' t' m' bh (i + 1) b q) r ∧ (1 ≤ r.1.length ∧ (r.1.length : Int) ≤ N + 1 ∧ p ≤ r.2 ∧ r.2 ≤ p + (d + 1 : Nat) * 20 ∧ ∀ x ∈ r.1, x.f1 ≤ 9223372036854775807) := by
      intro l' t' m' q h1 h2 h3 h4
      obtain ⟨r, hr, c1, c2, c3, c4, c5⟩ := ih l' t' m' (i + 1) q (by omega) (by omega) h1 (by omega) (by omega) h4
      exact ⟨r, hr, c1, c2, by omega, by omega, c5⟩
    refine step_ex (f := fun k => _) (fun k => by simp only [spec_l20Log.l0]; rfl) ?_
    refine ite_ex (fun _ => ?_) (fun h => absurd (show i < N by omega) h)
    refine bind_ex e1 (bind_ex e2 ?_)
    simp only [hw]
    refine ite_ex (fun _ => ?_) (fun _ => ?_)
    · repeat' (refine ite_ex (fun _ => ?_) (fun _ => ?_))
      all_goals first | exact again _ _ _ _ (by first | omega | (simp; omega)) (by omega) (by omega) (by first | exact hv | exact hadd _ _ hv (wrap_hi _) | exact hadd _ _ hv (by simp only; omega)) | (exfalso; omega)
    · obtain ⟨x0, x1, x2, x3, x4, q1, e3, a3, b3⟩ := rec_ev hb (p := p + 1 + 1) (by omega)
      obtain ⟨v4, e4, a4, b4⟩ := pick_ev hb (p := q1) (by omega) (n := 20) (by omega)
      obtain ⟨v5, e5, a5, b5⟩ := pick_ev hb (p := q1 + 1) (by omega) (n := 7) (by omega)
      obtain ⟨v6, e6, a6, b6⟩ := pick_ev hb (p := q1 + 1 + 1) (by omega) (n := 3) (by omega)
      have l5 : v5 < (([0, 0, 1, 2, 4, 8, v4] : List Int).length : Int) := by simpa using b5
      refine bind_ex e3 (bind_ex e4 ?_)
      simp only [Option.bind_some]
      refine bind_ex e5 ?_
      simp only [if_pos a5, if_pos l5]
      refine bind_ex e6 ?_
      repeat' (refine ite_ex (fun _ => ?_) (fun _ => ?_))
      all_goals first | exact again _ _ _ _ (by first | omega | (simp; omega)) (by omega) (by omega) (by first | exact hv | exact hadd _ _ hv (wrap_hi _) | exact hadd _ _ hv (by simp only; omega)) | (exfalso; omega)
theorem log_ev {b : List Int} (hb : Code b) {p : Int} (hp : 0 ≤ p ∧ p ≤ 999980000) {N : Int} (h0 : 0 ≤ N) (hN : N ≤ 16) : ∃ r : List S47 × Int, Ev (fun k => spec_l20Log.f k b p N) r ∧ (1 ≤ r.1.length ∧ (r.1.length : Int) ≤ N + 1 ∧ p ≤ r.2 ∧ r.2 ≤ p + 400 ∧ ∀ x ∈ r.1, x.f1 ≤ 9223372036854775807) := by
  obtain ⟨v1, e1, a1, b1⟩ := pick_ev hb (p := p) (by omega) (n := 5) (by omega)
  obtain ⟨v2, e2, a2, b2⟩ := pick_ev hb (p := p + 1) (by omega) (n := 6) (by omega)
  have l2 : v2 < (([0, 0, 1, 3, 7, 12] : List Int).length : Int) := by simpa using b2
  obtain ⟨r, hr, c1, c2, c3, c4, c5⟩ := log_loop hb N hN (rd [0, 0, 1, 3, 7, 12] v2) N.toNat [] v1 0 0 (p + 1 + 1) (by omega) (by omega) (by simp) (by omega) (by omega) (fun x h => by cases h)
  unfold spec_l20Log.f
  refine bind_ex e1 ?_
  simp only [Option.bind_some]
  refine bind_ex e2 ?_
  simp only [if_pos a2, if_pos l2]
  exact ⟨r, hr, c1, c2, by omega, by omega, c5⟩
theorem anylog_loop {b : List Int} (hb : Code b) (d : Nat) : ∀ (l : List S47) (p : Int), l.length + d = 41 → 0 ≤ p → p + d * 4 ≤ 999990000 → (∀ x ∈ l, x.f1 ≤ 9223372036854775807) → ∃ r : List S47 × Int, Ev (fun k => spec_l20AnyLog.l0 k l b p) r ∧ (r.1.length ≤ 41 ∧ p ≤ r.2 ∧ r.2 ≤ p + d * 4 ∧ ∀ x ∈ r.1, x.f1 ≤ 9223372036854775807) := by
  induction d with
  | zero =>
    intro l p hl hp0 hp1 hv
    exact ⟨(l, p), Ev_now1 (fun k => by simp only [spec_l20AnyLog.l0]; rw [if_neg (by omega)]), by simp only; omega, by simp only; omega, by simp only; omega, hv⟩
  | succ d ih =>
    intro l p hl hp0 hp1 hv
    obtain ⟨x0, x1, x2, x3, x4, q1, e3, a3, b3⟩ := rec_ev hb (p := p) (by omega)
    obtain ⟨r, hr, c1, c2, c3, c4⟩ := ih ([⟨x0, x1, x2, x3, x4⟩] ++ l) q1 (by simp; omega) (by omega) (by omega) (fun x hx => by
      rcases List.mem_append.mp hx with hx | hx
      · rw [List.mem_singleton.mp hx]
        simp only
        omega
      · exact hv x hx)
    refine step_ex (f := fun k => _) (fun k => by simp only [spec_l20AnyLog.l0]; rfl) ?_
    refine ite_ex (fun _ => ?_) (fun h => absurd (show (l.length : Int) ≤ 40 by omega) h)
    refine bind_ex e3 ?_
    simp only [Option.bind_some]
    refine ite_ex (fun _ => ⟨r, hr, c1, by omega, by omega, c4⟩) (fun h => absurd (show _ < 3518437208883 by first | omega | (simp; omega)) h)
theorem anylog_ev {b : List Int} (hb : Code b) {p : Int} (hp : 0 ≤ p ∧ p ≤ 999970000) {n : Int} (hn : 1 ≤ n) : ∃ r : List S47 × Int, Ev (fun k => spec_l20AnyLog.f k b p n) r ∧ (r.1.length ≤ 41 ∧ p ≤ r.2 ∧ r.2 ≤ p + 700 ∧ ∀ x ∈ r.1, x.f1 ≤ 9223372036854775807) := by
  obtain ⟨v1, e1, a1, b1⟩ := pick_ev hb (p := p) (by omega) (n := 16) (by omega)
  obtain ⟨⟨l, q⟩, e2, c1, c2, c3, c4, hv⟩ := log_ev hb (p := p + 1) (by omega) (N := v1) (by omega) (by omega)
  simp only at c1 c2 c3 c4 hv
  obtain ⟨v3, e3, a3, b3⟩ := pick_ev hb (p := q) (by omega) (n := n) hn
  obtain ⟨v4, e4, a4, b4⟩ := pick_ev hb (p := q + 1) (by omega) (n := (l.length : Int)) (by omega)
  obtain ⟨v5, e5, a5, b5⟩ := pick_ev hb (p := q + 1 + 1) (by omega) (n := 5) (by omega)
  have hw : wrap64 ((l.length : Int) - 1) = (l.length : Int) - 1 := wrap_id (by omega) (by omega)
  unfold spec_l20AnyLog.f
  refine bind_ex e1 (bind_ex e2 (bind_ex e3 ?_))
  refine ite_ex (fun _ => ?_) (fun _ => ?_)
  · exact ⟨_, Ev.now _, by first | omega | (simp only; omega) | (simp; omega), by first | omega | (simp only; omega), by first | omega | (simp only; omega), hv⟩
  refine bind_ex e4 (bind_ex e5 ?_)
  simp only [hw]
  refine ite_ex (fun _ => ?_) (fun _ => ite_ex (fun _ => ?_) (fun _ => ite_ex (fun _ => ?_) (fun _ => ite_ex (fun _ => ?_) (fun _ => ?_))))
  · obtain ⟨x0, x1, x2, x3, x4, q1, e6, a6, b6⟩ := item_ev hb (p := q + 1 + 1 + 1) (by omega) (n := 2) (by omega)
    refine bind_ex e6 ?_
    refine ite_ex (fun _ => ite_ex (fun _ => ⟨_, Ev.now _, by first | omega | (simp only; omega) | (simp; omega), by first | omega | (simp only; omega), by first | omega | (simp only; omega), fun x hx => by rcases List.mem_or_eq_of_mem_set hx with hx | hx; exact hv x hx; rw [hx]; simp only; omega⟩) (fun h => absurd b4 h)) (fun h => absurd a4 h)
  · refine ite_ex (fun _ => ite_ex (fun _ => ⟨_, Ev.now _, by first | omega | (simp only; omega) | (simp; omega), by first | omega | (simp only; omega), by first | omega | (simp only; omega), fun x hx => hv x (List.mem_of_mem_take hx)⟩) (fun h => absurd (show (l.length : Int) - 1 ≤ (l.length : Int) by omega) h)) (fun h => absurd (show 0 ≤ (l.length : Int) - 1 by omega) h)
  · obtain ⟨x0, x1, x2, x3, x4, q1, e6, a6, b6⟩ := item_ev hb (p := q + 1 + 1 + 1) (by omega) (n := 3) (by omega)
    refine bind_ex e6 ?_
    refine ite_ex (fun _ => ⟨_, Ev.now _, by first | omega | (simp only; omega) | (simp; omega), by first | omega | (simp only; omega), by first | omega | (simp only; omega), hadd _ _ hv (by simp only; omega)⟩) (fun h => absurd (show l.length < 3518437208883 by omega) h)
  · obtain ⟨v6, e6, a6, b6⟩ := pick_ev hb (p := q + 1 + 1 + 1) (by omega) (n := 60) (by omega)
    simp only [Option.bind_some]
    refine ite_ex (fun _ => ?_) (fun h => absurd a4 h)
    refine ite_ex (fun _ => ?_) (fun h => absurd (show v4 ≤ (l.length : Int) by omega) h)
    refine ite_ex (fun _ => ?_) (fun h => absurd (show _ < 3518437208883 by first | omega | (simp; omega)) h)
    refine bind_ex e6 ?_
    refine ite_ex (fun _ => ?_) (fun h => absurd (show _ < 3518437208883 by first | omega | (simp; omega)) h)
    refine ite_ex (fun _ => ⟨_, Ev.now _, by first | omega | (simp only; omega) | (simp; omega), by first | omega | (simp only; omega), by first | omega | (simp only; omega), fun x hx => by rcases List.mem_append.mp hx with hx | hx; (refine hadd _ _ (fun y hy => hv y (List.mem_of_mem_take (by simpa using hy))) (wrap_hi _) x hx); exact hv x (List.mem_of_mem_drop hx)⟩) (fun h => absurd (show _ < 3518437208883 by first | omega | (simp; omega)) h)
  · obtain ⟨r, hr, d1, d2, d3, d4⟩ := anylog_loop hb (41 - l.length) l (q + 1 + 1 + 1) (by omega) (by omega) (by omega) hv
    exact ⟨r, hr, d1, by omega, by omega, d4⟩
theorem l1In_is (a b c : Int) : spec_l1In.f a b c = some (decide (b ≤ a ∧ a ≤ c)) := by
  unfold spec_l1In.f
  by_cases h : a ≥ b
  · have h' : b ≤ a := h
    simp [h, h']
  · have h' : ¬ b ≤ a := h
    simp [h']
theorem in_is (a b c : Int) : impl_in.f a b c = some (decide (b ≤ a ∧ a ≤ c)) := l1In_is a b c
/-- One round of LogPunctual: the greatest mark so far, or out. -/
def stp (late : Int) (s : Int) (x : S47) : Sum Bool Int :=
  if x.f0 = 2 then .inr (mx s x.f1) else if x.f0 = 1 ∧ x.f1 < wrap64 (s - late) then .inl false else .inr s
theorem mx_is (a b : Int) : mx a b = if b > a then b else a := rfl
theorem spec_punct (l : List S47) (late : Int) (hl : l.length ≤ 1048576) : Ev (fun k => spec_LogPunctual.l0 k l late 0 0) (runL (stp late) (fun _ => true) l 0) := by
  refine Ev_run (fun k s i => spec_LogPunctual.l0 k l late s i) l (stp late) _ (fun _ _ => True) (fun j s hj _ s' hs => ⟨trivial, fun r hr => ?_⟩) (fun j s hj _ r hs => ?_) (fun s _ => Ev_now1 (fun k => by simp only [spec_LogPunctual.l0]; rw [if_neg (by omega)])) 0 trivial
  · unfold stp at hs
    by_cases h2 : l[j].f0 = 2
    · rw [if_pos h2] at hs
      have hs := Sum.inr.inj hs
      refine Ev_eq (f := fun k => spec_LogPunctual.j1 k l late s (j : Int) (decide (l[j].f1 > s))) ?_ (fun k => by
        simp only [spec_LogPunctual.l0]
        rw [if_pos (by omega), if_pos (by omega), rd47_at l j hj, if_pos h2])
      refine Ev_eq hr (fun k => ?_)
      simp only [spec_LogPunctual.j1]
      have h1 : ¬ l[j].f0 = 1 := by omega
      rw [mx_is] at hs
      by_cases h3 : l[j].f1 > s
      · rw [if_pos h3] at hs
        rw [if_pos (decide_eq_true h3), if_pos (by omega), if_pos (by omega), rd47_at l j hj, if_neg h1, wrap_nat hj (by omega), hs]
      · rw [if_neg h3] at hs
        rw [if_neg (by simpa using h3), if_pos (by omega), if_pos (by omega), rd47_at l j hj, if_neg h1, wrap_nat hj (by omega), hs]
    · rw [if_neg h2] at hs
      refine Ev_eq (f := fun k => spec_LogPunctual.j1 k l late s (j : Int) false) ?_ (fun k => by
        simp only [spec_LogPunctual.l0]
        rw [if_pos (by omega), if_pos (by omega), rd47_at l j hj, if_neg h2])
      split at hs
      · cases hs
      · rename_i h1
        have hs := Sum.inr.inj hs
        refine Ev_eq hr (fun k => ?_)
        simp only [spec_LogPunctual.j1]
        rw [if_neg (by simp), if_pos (by omega), if_pos (by omega), rd47_at l j hj, wrap_nat hj (by omega), hs]
        by_cases h4 : l[j].f0 = 1
        · rw [if_pos h4, if_neg (fun h => h1 ⟨h4, by rw [← hs] at h; exact h⟩)]
        · rw [if_neg h4]
  · unfold stp at hs
    by_cases h2 : l[j].f0 = 2
    · rw [if_pos h2] at hs
      cases hs
    · rw [if_neg h2] at hs
      refine Ev_eq (f := fun k => spec_LogPunctual.j1 k l late s (j : Int) false) ?_ (fun k => by
        simp only [spec_LogPunctual.l0]
        rw [if_pos (by omega), if_pos (by omega), rd47_at l j hj, if_neg h2])
      split at hs
      · rename_i h1
        refine Ev_now1 (fun k => ?_)
        simp only [spec_LogPunctual.j1]
        rw [if_neg (by simp), if_pos (by omega), if_pos (by omega), rd47_at l j hj, if_pos h1.1, if_pos h1.2, Sum.inl.inj hs]
      · cases hs
theorem impl_punct (l : List S47) (late : Int) (hl : l.length ≤ 1048576) : Ev (fun k => impl_LogPunctual.l0 k late 0 l (l.length : Int) 0) (runL (stp late) (fun _ => true) l 0) := by
  refine Ev_run (fun k s i => impl_LogPunctual.l0 k late s l (l.length : Int) i) l (stp late) _ (fun _ _ => True) (fun j s hj _ s' hs => ⟨trivial, fun r hr => Ev_eq hr (fun k => ?_)⟩) (fun j s hj _ r hs => Ev_now1 (fun k => ?_)) (fun s _ => Ev_now1 (fun k => by simp only [impl_LogPunctual.l0]; rw [if_neg (by omega)])) 0 trivial
  · simp only [impl_LogPunctual.l0]
    rw [if_pos (by omega), if_pos (by omega), if_pos (by omega), rd47_at l j hj, wrap_nat hj (by omega)]
    unfold stp at hs
    split at hs
    · rename_i h2
      rw [if_pos h2, Sum.inr.inj hs]
    · rename_i h2
      rw [if_neg h2]
      split at hs
      · cases hs
      · rename_i h1
        by_cases h4 : l[j].f0 = 1
        · rw [if_pos h4, if_neg (fun h => h1 ⟨h4, h⟩), Sum.inr.inj hs]
        · rw [if_neg h4, Sum.inr.inj hs]
  · simp only [impl_LogPunctual.l0]
    rw [if_pos (by omega), if_pos (by omega), if_pos (by omega), rd47_at l j hj]
    unfold stp at hs
    split at hs
    · cases hs
    · rename_i h2
      rw [if_neg h2]
      split at hs
      · rename_i h1
        rw [if_pos h1.1, if_pos h1.2, Sum.inl.inj hs]
      · cases hs
/-- What LogPunctual tells. -/
def punct (l : List S47) (late : Int) : Bool := if 0 ≤ late ∧ late ≤ 1000 then runL (stp late) (fun _ => true) l 0 else false
theorem punct_spec (l : List S47) (late : Int) (hl : l.length ≤ 1048576) : Ev (fun k => spec_LogPunctual.f k l late) (punct l late) := by
  unfold punct
  by_cases h : 0 ≤ late ∧ late ≤ 1000
  · rw [if_pos h]
    exact Ev.congr (fun k => by unfold spec_LogPunctual.f; rw [l1In_is, decide_eq_true h]; rfl) (spec_punct l late hl)
  · rw [if_neg h]
    exact Ev_const (fun k => by unfold spec_LogPunctual.f; rw [l1In_is, decide_eq_false h]; rfl)
theorem punct_impl (l : List S47) (late : Int) (hl : l.length ≤ 1048576) : Ev (fun k => impl_LogPunctual.f k l late) (punct l late) := by
  unfold punct
  by_cases h : 0 ≤ late ∧ late ≤ 1000
  · rw [if_pos h]
    exact Ev.congr (fun k => by unfold impl_LogPunctual.f impl_isTime.f; rw [in_is, decide_eq_true h]; rfl) (impl_punct l late hl)
  · rw [if_neg h]
    exact Ev_const (fun k => by unfold impl_LogPunctual.f impl_isTime.f; rw [in_is, decide_eq_false h]; rfl)
theorem frOk_is : laws_frOk.f = some true := by decide +kernel
theorem run_take (late : Int) (l : List S47) (n : Nat) (s : Int) (h : runL (stp late) (fun _ => true) l s = true) : runL (stp late) (fun _ => true) (l.take n) s = true := by
  induction l generalizing n s with
  | nil => simpa using h
  | cons x l ih =>
    cases n with
    | zero => rfl
    | succ n =>
      rw [List.take_succ_cons]
      unfold runL at h ⊢
      cases he : stp late s x with
      | inl r => rw [he] at h; exact h
      | inr s' => rw [he] at h; exact ih n s' h
theorem run_more (late : Int) (h0 : 0 ≤ late) (h1 : late < 1000) (l : List S47) (s : Int) (hs : 0 ≤ s ∧ s ≤ 9223372036854775807) (hv : ∀ x ∈ l, x.f1 ≤ 9223372036854775807) (h : runL (stp late) (fun _ => true) l s = true) : runL (stp (late + 1)) (fun _ => true) l s = true := by
  induction l generalizing s with
  | nil => rfl
  | cons x l ih =>
    have hx := hv x (List.mem_cons_self ..)
    have hv' : ∀ y ∈ l, y.f1 ≤ 9223372036854775807 := fun y hy => hv y (List.mem_cons_of_mem _ hy)
    have hw1 : wrap64 (s - late) = s - late := wrap_id (by omega) (by omega)
    have hw2 : wrap64 (s - (late + 1)) = s - (late + 1) := wrap_id (by omega) (by omega)
    have hmx : mx s x.f1 = s ∨ mx s x.f1 = x.f1 ∧ s ≤ x.f1 := by
      rw [mx_is]
      split
      · exact .inr ⟨rfl, by omega⟩
      · exact .inl rfl
    unfold runL at h ⊢
    unfold stp at h ⊢
    rw [hw1] at h
    rw [hw2]
    by_cases h2 : x.f0 = 2
    · rw [if_pos h2] at h ⊢
      exact ih (mx s x.f1) (by omega) hv' h
    · rw [if_neg h2] at h ⊢
      by_cases h3 : x.f0 = 1 ∧ x.f1 < s - late
      · rw [if_pos h3] at h
        cases h
      · rw [if_neg h3] at h
        rw [if_neg (by omega)]
        exact ih s hs hv' h
theorem draw1_ev {b : List Int} (hb : Code b) {p : Int} (hp : 0 ≤ p ∧ p ≤ 999900000) (g : List S47) : ∃ r : List S47 × Int, Ev (fun k => spec_DrawLogPunctual.j1 k g b p) r ∧ r.1 = g := by
  obtain ⟨v1, e1, a1, b1⟩ := pick_ev hb (p := p) (by omega) (n := 14) (by omega)
  obtain ⟨v2, e2, a2, b2⟩ := pick_ev hb (p := p + 1) (by omega) (n := 14) (by omega)
  obtain ⟨v3, e3, a3, b3⟩ := pick_ev hb (p := p + 1 + 1) (by omega) (n := 14) (by omega)
  obtain ⟨v4, e4, a4, b4⟩ := pick_ev hb (p := p + 1 + 1 + 1) (by omega) (n := 14) (by omega)
  obtain ⟨v5, e5, a5, b5⟩ := pick_ev hb (p := p + 1 + 1 + 1 + 1) (by omega) (n := 8) (by omega)
  refine step_ex (f := fun k => _) (fun k => by simp only [spec_DrawLogPunctual.j1]; rfl) ?_
  refine bind_ex e1 (bind_ex e2 (bind_ex e3 (bind_ex e4 ?_)))
  simp only [Option.bind_some]
  refine bind_ex e5 ?_
  refine ite_ex (fun _ => ite_ex (fun _ => ⟨_, Ev.now _, rfl⟩) (fun h => absurd (by simpa using b5) h)) (fun h => absurd a5 h)
theorem draw0_ev {b : List Int} (hb : Code b) {p : Int} (hp : 0 ≤ p ∧ p ≤ 999800000) (g : List S47) (c : Bool) (hg : g.length ≤ 41) (hc : c = true → 0 < g.length) (hv : ∀ x ∈ g, x.f1 ≤ 9223372036854775807) : ∃ r : List S47 × Int, Ev (fun k => spec_DrawLogPunctual.j0 k g c b p) r ∧ (r.1.length ≤ 41 ∧ ∀ x ∈ r.1, x.f1 ≤ 9223372036854775807) := by
  refine step_ex (f := fun k => _) (fun k => by simp only [spec_DrawLogPunctual.j0]; rfl) ?_
  refine ite_ex (fun h => ?_) (fun _ => ?_)
  · have h0 := hc h
    obtain ⟨v1, e1, a1, b1⟩ := pick_ev hb (p := p) (by omega) (n := (g.length : Int)) (by omega)
    obtain ⟨v2, e2, a2, b2⟩ := pick_ev hb (p := p + 1) (by omega) (n := 2) (by omega)
    have l2 : v2 < (([9223372036854775807, (-9223372036854775808)] : List Int).length : Int) := by simpa using b2
    have hm := rdlit _ v2 a2 l2
    simp only [List.mem_cons, List.not_mem_nil, or_false] at hm
    refine bind_ex e1 ?_
    simp only [Option.bind_some]
    refine bind_ex e2 ?_
    refine ite_ex (fun _ => ?_) (fun h => absurd a2 h)
    refine ite_ex (fun _ => ?_) (fun h => absurd l2 h)
    refine ite_ex (fun _ => ?_) (fun h => absurd a1 h)
    refine ite_ex (fun _ => ?_) (fun h => absurd b1 h)
    obtain ⟨r, hr, h1⟩ := draw1_ev hb (p := p + 1 + 1) (by omega) (g.set v1.toNat ⟨(rd_T47 g v1).f0, rd [9223372036854775807, (-9223372036854775808)] v2, (rd_T47 g v1).f2, (rd_T47 g v1).f3, (rd_T47 g v1).f4⟩)
    refine ⟨r, hr, by rw [h1]; simpa using hg, fun x hx => ?_⟩
    rw [h1] at hx
    rcases List.mem_or_eq_of_mem_set hx with hx | hx
    · exact hv x hx
    · rw [hx]
      simp only
      omega
  · obtain ⟨r, hr, h1⟩ := draw1_ev hb (p := p) (by omega) g
    exact ⟨r, hr, by rw [h1]; exact hg, by rw [h1]; exact hv⟩
theorem FnLogPunctual : laws_FnLogPunctual.Pure := by
  intro l _ _ hx
  apply Ev.rounds
  unfold laws_FnLogPunctual.f
  by_cases hl : (l.length : Int) > 1048576
  · simp only [if_pos hl]
    exact Ev.now _
  · simp only [if_neg hl]
    obtain ⟨b, ho, hb⟩ := open_ev (l := l) (by omega) hx
    obtain ⟨⟨g, q⟩, e1, c1, c2, c3, hv⟩ := anylog_ev hb (p := 0) (by omega) (n := 8) (by omega)
    simp only at c1 c2 c3 hv
    have hd : ∃ r : List S47 × Int, Ev (fun k => spec_DrawLogPunctual.f k l) r ∧ (r.1.length ≤ 41 ∧ ∀ x ∈ r.1, x.f1 ≤ 9223372036854775807) := by
      unfold spec_DrawLogPunctual.f
      rw [ho]
      simp only [Option.bind_some]
      refine bind_ex e1 ?_
      refine ite_ex (fun h0 => ?_) (fun _ => ?_)
      · obtain ⟨v2, e2, a2, b2⟩ := pick_ev hb (p := q) (by omega) (n := 12) (by omega)
        refine bind_ex e2 ?_
        exact draw0_ev hb (p := q + 1) (by omega) g _ c1 (fun _ => by simp only at h0; omega) hv
      · exact draw0_ev hb (p := q) (by omega) g _ c1 (fun h => by simp at h) hv
    obtain ⟨⟨m, late⟩, e2, hm, hmv⟩ := hd
    simp only at hm hmv
    have hml : m.length ≤ 1048576 := by omega
    have hw : wrap64 ((m.length : Int) + 1) = (m.length : Int) + 1 := wrap_id (by omega) (by omega)
    refine Ev.bind e2 (Ev.bind (punct_impl m late hml) (Ev.bind (punct_spec m late hml) ?_))
    simp only [bne_self_eq_false, Bool.false_eq_true, if_false, hw, if_neg (show ¬ (m.length : Int) + 1 = 0 by omega)]
    have hk0 : 0 ≤ (l.length : Int) % ((m.length : Int) + 1) := Int.emod_nonneg _ (by omega)
    have hk1 : (l.length : Int) % ((m.length : Int) + 1) < (m.length : Int) + 1 := Int.emod_lt_of_pos _ (by omega)
    have hend : Ev (fun k => (impl_LogPunctual.f k ([] : List S47) 0).bind fun t => if t = true then (laws_frOk.f).bind fun t2 => some t2 else some false) true := by
      have h := punct_impl [] 0 (by simp)
      have he : punct [] 0 = true := by unfold punct; rw [if_pos (by omega)]; rfl
      rw [he] at h
      refine Ev.bind h ?_
      simp only [if_true, frOk_is, Option.bind_some]
      exact Ev.now _
    by_cases hp : punct m late = true
    · have hr : 0 ≤ late ∧ late ≤ 1000 := Decidable.byContradiction fun h => by
        unfold punct at hp
        rw [if_neg h] at hp
        cases hp
      have hrun : runL (stp late) (fun _ => true) m 0 = true := by
        unfold punct at hp
        rw [if_pos hr] at hp
        exact hp
      have htake : punct (m.take ((l.length : Int) % ((m.length : Int) + 1)).toNat) late = true := by
        unfold punct
        rw [if_pos hr]
        exact run_take late m _ 0 hrun
      have htail : Ev (fun k => (impl_LogPunctual.f k (m.take ((l.length : Int) % ((m.length : Int) + 1)).toNat) late).bind fun t => if t = true then (impl_LogPunctual.f k ([] : List S47) 0).bind fun t => if t = true then (laws_frOk.f).bind fun t2 => some t2 else some false else some false) true := by
        have h := punct_impl (m.take ((l.length : Int) % ((m.length : Int) + 1)).toNat) late (by simp; omega)
        rw [htake] at h
        refine Ev.bind h ?_
        simp only [if_true]
        exact hend
      simp only [hp, if_true, if_pos hk0, if_pos (show (l.length : Int) % ((m.length : Int) + 1) ≤ (m.length : Int) by omega)]
      by_cases h1000 : late = 1000
      · simp only [if_pos h1000]
        exact htail
      · simp only [if_neg h1000]
        have hw2 : wrap64 (late + 1) = late + 1 := wrap_id (by omega) (by omega)
        have h := punct_impl m (late + 1) hml
        have hmore : punct m (late + 1) = true := by
          unfold punct
          rw [if_pos (by omega)]
          exact run_more late hr.1 (by omega) m 0 (by omega) hmv hrun
        rw [hmore] at h
        simp only [hw2]
        refine Ev.bind h ?_
        simp only [if_true]
        exact htail
    · simp only [hp, Bool.false_eq_true, if_false]
      exact hend

end Go.Proofs.Ytofhaglklhmilaa.Pure
