/- The law FnAggFold over numbers and lists: the Lean function of it that was printed answers true. No condition but that each number is one of its kind. -/
import Derived.Test.YtofhaglklhmilaaQFnAggFoldx7
import Derived.Test.YtofhaglklhmilaaAid
set_option linter.unusedVariables false
set_option linter.unusedSimpArgs false
namespace Go.Proofs.Ytofhaglklhmilaa.Pure
open Go.RowKit Go.Proofs.Ytofhaglklhmilaa.PFnAggFold Go.Proofs.YtofhaglklhmilaaW.PrintWords Go.Proofs.YtofhaglklhmilaaW.PrintLast Go.Proofs.Ytofhaglklhmilaa.Aid

theorem rd47_at (l : List S47) (j : Nat) (h : j < l.length) : rd_T47 l (j : Int) = l[j] := by simp [rd_T47, List.getD_eq_getElem?_getD, h]
/-- A code that may be read: bytes, not too many. -/
def Code (b : List Int) : Prop := b.length ≤ 2000 ∧ ∀ x ∈ b, 0 ≤ x ∧ x ≤ 255
theorem code_rd {b : List Int} (hb : Code b) (i : Int) : 0 ≤ rd b i ∧ rd b i ≤ 255 := by
  unfold rd
  rw [List.getD_eq_getElem?_getD]
  rcases Nat.lt_or_ge i.toNat b.length with h | h
  · rw [List.getElem?_eq_getElem h]
    exact hb.2 _ (List.getElem_mem h)
  · rw [List.getElem?_eq_none h]
    exact ⟨Int.le_refl _, by decide⟩
theorem xor_pos (x y : Int) (hx : 0 ≤ x ∧ x < 4611686018427387904) (hy : 0 ≤ y ∧ y < 4611686018427387904) : 0 ≤ Go.bits .xor .i64 x y := by
  obtain ⟨a, rfl⟩ := Int.eq_ofNat_of_zero_le hx.1
  obtain ⟨b, rfl⟩ := Int.eq_ofNat_of_zero_le hy.1
  have ha : a < 2 ^ 62 := by omega
  have hb : b < 2 ^ 62 := by omega
  have ha' : a % 2 ^ IntKind.i64.bits = a := Nat.mod_eq_of_lt (Nat.lt_of_lt_of_le ha (by decide))
  have hb' : b % 2 ^ IntKind.i64.bits = b := Nat.mod_eq_of_lt (Nat.lt_of_lt_of_le hb (by decide))
  have hxr : a ^^^ b < 2 ^ 62 := Nat.xor_lt_two_pow ha hb
  simp only [Go.bits, BitVec.ofInt_natCast, BitVec.toNat_xor, BitVec.toNat_ofNat, ha', hb']
  rw [IntKind.wrap_i64]
  have : ((a ^^^ b : Nat) : Int) < 2 ^ 62 := by exact_mod_cast hxr
  omega
theorem tmod_in (x n : Int) (hx : 0 ≤ x) (hn : 1 ≤ n) : 0 ≤ Int.tmod x n ∧ Int.tmod x n < n :=
  ⟨Int.tmod_nonneg _ hx, Int.tmod_lt_of_pos _ (by omega)⟩
theorem pick_ev {b : List Int} (hb : Code b) {p : Int} (hp : 0 ≤ p ∧ p ≤ 1000000000) {n : Int} (hn : 1 ≤ n) : ∃ v, Ev (fun k => spec_l20Rd_pick.f k b p n) (v, p + 1) ∧ 0 ≤ v ∧ v < n := by
  have hl := hb.1
  have hw : wrap64 (p + 1) = p + 1 := wrap_id (by omega) (by omega)
  have hw2 : wrap64 (p + 1 - 1) = p := by rw [wrap_id (by omega) (by omega)]; omega
  have e0 : ∀ k, spec_l20Rd_pick.f k b p n = spec_l20Rd_pick.j0 k n ((b.length : Int) == 0) b (p + 1) := fun k => by
    unfold spec_l20Rd_pick.f
    rw [if_neg (by omega), hw]
  by_cases hz : b.length = 0
  · refine ⟨0, Ev.congr e0 (Ev_now1 (fun k => ?_)), by omega, by omega⟩
    simp only [spec_l20Rd_pick.j0]
    rw [if_pos (by simp [hz])]
  · have hz' : ((b.length : Int) == 0) = false := by simpa using hz
    have hlp : (1 : Int) ≤ (b.length : Int) := by omega
    rw [hz'] at e0
    by_cases h1 : p < (b.length : Int)
    · have hr := code_rd hb p
      have hwr : wrap64 (rd b p) = rd b p := wrap_id (by omega) (by omega)
      obtain ⟨t0, t1⟩ := tmod_in (rd b p) n hr.1 hn
      refine ⟨Int.tmod (rd b p) n, Ev.congr e0 (Ev_now1 (fun k => ?_)), t0, t1⟩
      simp only [spec_l20Rd_pick.j0]
      rw [if_neg (by simp), hw2, if_pos h1, if_pos hp.1, if_neg (by omega), hwr]
    · obtain ⟨t0, t1⟩ := tmod_in p (b.length : Int) hp.1 hlp
      have w7 : wrap64 (p * 7) = p * 7 := wrap_id (by omega) (by omega)
      have w73 : wrap64 (p * 7 + 3) = p * 7 + 3 := wrap_id (by omega) (by omega)
      obtain ⟨s0, s1⟩ := tmod_in (p * 7 + 3) (b.length : Int) (by omega) hlp
      have ra := code_rd hb (Int.tmod p (b.length : Int))
      have rb := code_rd hb (Int.tmod (p * 7 + 3) (b.length : Int))
      have hd0 : 0 ≤ Int.tdiv p (b.length : Int) := Int.tdiv_nonneg hp.1 (by omega)
      have hd1 : Int.tdiv p (b.length : Int) ≤ p := by
        rw [Int.tdiv_eq_ediv_of_nonneg hp.1]
        exact Int.ediv_le_self _ hp.1
      generalize hA : rd b (Int.tmod p (b.length : Int)) = A at ra
      generalize hB : rd b (Int.tmod (p * 7 + 3) (b.length : Int)) = B at rb
      generalize hD : Int.tdiv p (b.length : Int) = D at hd0 hd1
      have v1 : wrap64 A = A := wrap_id (by omega) (by omega)
      have v2 : wrap64 (A * 131) = A * 131 := wrap_id (by omega) (by omega)
      have v3 : wrap64 B = B := wrap_id (by omega) (by omega)
      have v4 : wrap64 (B * 1117) = B * 1117 := wrap_id (by omega) (by omega)
      have v5 : wrap64 (A * 131 + B * 1117) = A * 131 + B * 1117 := wrap_id (by omega) (by omega)
      have v6 : wrap64 (p * 29) = p * 29 := wrap_id (by omega) (by omega)
      have v7 : wrap64 (A * 131 + B * 1117 + p * 29) = A * 131 + B * 1117 + p * 29 := wrap_id (by omega) (by omega)
      have v8 : wrap64 D = D := wrap_id (by omega) (by omega)
      have v9 : wrap64 (D * 53) = D * 53 := wrap_id (by omega) (by omega)
      have v10 : wrap64 (A * 131 + B * 1117 + p * 29 + D * 53) = A * 131 + B * 1117 + p * 29 + D * 53 := wrap_id (by omega) (by omega)
      have hx0 : 0 ≤ A * 131 + B * 1117 + p * 29 + D * 53 ∧ A * 131 + B * 1117 + p * 29 + D * 53 < 4611686018427387904 := by omega
      generalize hX : A * 131 + B * 1117 + p * 29 + D * 53 = X at v10 hx0
      have hq0 : 0 ≤ Int.tdiv X 64 := Int.tdiv_nonneg hx0.1 (by omega)
      have hq1 : Int.tdiv X 64 ≤ X := by
        rw [Int.tdiv_eq_ediv_of_nonneg hx0.1]
        omega
      have v11 : wrap64 (Int.tdiv X 64) = Int.tdiv X 64 := wrap_id (by omega) (by omega)
      have hxor := xor_pos X (Int.tdiv X 64) hx0 ⟨hq0, by omega⟩
      obtain ⟨u0, u1⟩ := tmod_in _ n hxor hn
      refine ⟨Int.tmod (Go.bits .xor .i64 X (Int.tdiv X 64)) n, Ev.congr e0 (Ev_now1 (fun k => ?_)), u0, u1⟩
      simp only [spec_l20Rd_pick.j0]
      rw [if_neg (by simp), hw2, if_neg h1, if_neg (by omega), if_pos t0, if_pos t1]
      simp only [w7, w73]
      rw [if_pos s0, if_pos s1, if_neg (by omega)]
      simp only [hA, hB, hD, v1, v2, v3, v4, v5, v6, v7, v8, v9, v10, hX, v11]
theorem open_ev {l : List Int} (hl : l.length ≤ 1048576) (hb : ∀ x ∈ l, (Lit.int .u8 x).wf = true) : ∃ b, spec_l20Open.f l = some (b, 0) ∧ Code b := by
  have hx : ∀ x ∈ l, 0 ≤ x ∧ x ≤ 255 := fun x h => by
    have := hb x h
    simp only [Lit.wf, Bool.and_eq_true, decide_eq_true_eq] at this
    have a : IntKind.u8.min = 0 := by decide
    have b : IntKind.u8.max = 255 := by decide
    omega
  unfold spec_l20Open.f
  by_cases h : (l.length : Int) > 2000
  · rw [if_pos h, if_pos (by omega)]
    exact ⟨_, rfl, by simp; omega, fun x hm => hx x (List.mem_of_mem_take hm)⟩
  · rw [if_neg h]
    exact ⟨_, rfl, by omega, hx⟩
theorem rdlit (xs : List Int) (i : Int) (h0 : 0 ≤ i) (h1 : i < (xs.length : Int)) : rd xs i ∈ xs := by
  unfold rd
  have h : i.toNat < xs.length := by omega
  rw [List.getD_eq_getElem?_getD, List.getElem?_eq_getElem h]
  exact List.getElem_mem h
theorem rec_ev {b : List Int} (hb : Code b) {p : Int} (hp : 0 ≤ p ∧ p ≤ 999999900) : ∃ x0 x1 x2 x3 x4 q, Ev (fun k => spec_l20Rec.f k b p) (x0, x1, x2, x3, x4, q) ∧ p ≤ q ∧ q ≤ p + 4 := by
  obtain ⟨v1, e1, a1, b1⟩ := pick_ev hb (p := p) (by omega) (n := 61) (by omega)
  obtain ⟨v2, e2, a2, b2⟩ := pick_ev hb (p := p + 1) (by omega) (n := 6) (by omega)
  obtain ⟨v3, e3, a3, b3⟩ := pick_ev hb (p := p + 1 + 1) (by omega) (n := 4) (by omega)
  obtain ⟨v4, e4, a4, b4⟩ := pick_ev hb (p := p + 1 + 1 + 1) (by omega) (n := 19) (by omega)
  have l1 : v2 < (([0, 1, 5, 20, 60, v1] : List Int).length : Int) := by simpa using b2
  refine ⟨?_, ?_, ?_, ?_, ?_, ?_, ?e, ?_, ?_⟩
  case e =>
    unfold spec_l20Rec.f
    refine Ev.bind e1 ?_
    simp only [Option.bind_some]
    refine Ev.bind e2 ?_
    simp only [if_pos a2, if_pos l1]
    refine Ev.bind e3 (Ev.bind e4 ?_)
    exact Ev.now _
  all_goals omega
theorem itemj_ev {b : List Int} (hb : Code b) {p : Int} (hp : 0 ≤ p ∧ p ≤ 999999900) {n : Int} (hn : 1 ≤ n) (y0 y1 y2 y3 y4 : Int) : ∃ x0 x1 x2 x3 x4 q, Ev (fun k => spec_l20Item.j0 k n b p y0 y1 y2 y3 y4) (x0, x1, x2, x3, x4, q) ∧ p ≤ q ∧ q ≤ p + 3 := by
  obtain ⟨v1, e1, a1, b1⟩ := pick_ev hb (p := p) (by omega) (n := n) hn
  by_cases h1 : v1 > 0
  · refine ⟨?_, ?_, ?_, ?_, ?_, ?_, Ev.step (fun k => by simp only [spec_l20Item.j0]; rfl) (Ev.bind e1 ?e), ?_, ?_⟩
    case e =>
      simp only [if_pos h1]
      exact Ev.now _
    all_goals omega
  · obtain ⟨v2, e2, a2, b2⟩ := pick_ev hb (p := p + 1) (by omega) (n := 7) (by omega)
    obtain ⟨v3, e3, a3, b3⟩ := pick_ev hb (p := p + 1 + 1) (by omega) (n := 5) (by omega)
    have l1 : v2 < (([(-1), 0, 61, 4, 10, 1000, 901] : List Int).length : Int) := by simpa using b2
    by_cases c0 : v3 = 0
    · refine ⟨?_, ?_, ?_, ?_, ?_, ?_, Ev.step (fun k => by simp only [spec_l20Item.j0]; rfl) (Ev.bind e1 ?e), ?_, ?_⟩
      case e =>
        simp only [if_neg h1, Option.bind_some]
        refine Ev.bind e2 ?_
        simp only [if_pos a2, if_pos l1]
        refine Ev.bind e3 ?_
        simp only [if_pos c0]
        exact Ev.now _
      all_goals omega
    by_cases c1 : v3 = 1
    · refine ⟨?_, ?_, ?_, ?_, ?_, ?_, Ev.step (fun k => by simp only [spec_l20Item.j0]; rfl) (Ev.bind e1 ?e), ?_, ?_⟩
      case e =>
        simp only [if_neg h1, Option.bind_some]
        refine Ev.bind e2 ?_
        simp only [if_pos a2, if_pos l1]
        refine Ev.bind e3 ?_
        simp only [if_neg c0, if_pos c1]
        exact Ev.now _
      all_goals omega
    by_cases c2 : v3 = 2
    · refine ⟨?_, ?_, ?_, ?_, ?_, ?_, Ev.step (fun k => by simp only [spec_l20Item.j0]; rfl) (Ev.bind e1 ?e), ?_, ?_⟩
      case e =>
        simp only [if_neg h1, Option.bind_some]
        refine Ev.bind e2 ?_
        simp only [if_pos a2, if_pos l1]
        refine Ev.bind e3 ?_
        simp only [if_neg c0, if_neg c1, if_pos c2]
        exact Ev.now _
      all_goals omega
    by_cases c3 : v3 = 3
    · refine ⟨?_, ?_, ?_, ?_, ?_, ?_, Ev.step (fun k => by simp only [spec_l20Item.j0]; rfl) (Ev.bind e1 ?e), ?_, ?_⟩
      case e =>
        simp only [if_neg h1, Option.bind_some]
        refine Ev.bind e2 ?_
        simp only [if_pos a2, if_pos l1]
        refine Ev.bind e3 ?_
        simp only [if_neg c0, if_neg c1, if_neg c2, if_pos c3]
        exact Ev.now _
      all_goals omega
    · refine ⟨?_, ?_, ?_, ?_, ?_, ?_, Ev.step (fun k => by simp only [spec_l20Item.j0]; rfl) (Ev.bind e1 ?e), ?_, ?_⟩
      case e =>
        simp only [if_neg h1, Option.bind_some]
        refine Ev.bind e2 ?_
        simp only [if_pos a2, if_pos l1]
        refine Ev.bind e3 ?_
        simp only [if_neg c0, if_neg c1, if_neg c2, if_neg c3]
        exact Ev.now _
      all_goals omega
theorem item_ev {b : List Int} (hb : Code b) {p : Int} (hp : 0 ≤ p ∧ p ≤ 999999800) {n : Int} (hn : 1 ≤ n) : ∃ x0 x1 x2 x3 x4 q, Ev (fun k => spec_l20Item.f k b p n) (x0, x1, x2, x3, x4, q) ∧ p ≤ q ∧ q ≤ p + 9 := by
  obtain ⟨y0, y1, y2, y3, y4, q1, e1, a1, b1⟩ := rec_ev hb (p := p) (by omega)
  obtain ⟨v2, e2, a2, b2⟩ := pick_ev hb (p := q1) (by omega) (n := 4) (by omega)
  by_cases h0 : v2 = 0
  · obtain ⟨v3, e3, a3, b3⟩ := pick_ev hb (p := q1 + 1) (by omega) (n := 4) (by omega)
    have l1 : v3 < (([1, 10, 60, 1000] : List Int).length : Int) := by simpa using b3
    obtain ⟨x0, x1, x2, x3, x4, q, e4, a4, b4⟩ := itemj_ev hb (p := q1 + 1 + 1) (by omega) hn 2 (rd [1, 10, 60, 1000] v3) 0 0 0
    refine ⟨x0, x1, x2, x3, x4, q, ?_, by omega, by omega⟩
    unfold spec_l20Item.f
    refine Ev.bind e1 (Ev.bind e2 ?_)
    simp only [if_pos h0, Option.bind_some]
    refine Ev.bind e3 ?_
    simp only [if_pos a3, if_pos l1]
    exact e4
  by_cases h1 : v2 = 1
  · obtain ⟨v3, e3, a3, b3⟩ := pick_ev hb (p := q1 + 1) (by omega) (n := 3) (by omega)
    have l1 : v3 < (([1, 2, 900] : List Int).length : Int) := by simpa using b3
    obtain ⟨x0, x1, x2, x3, x4, q, e4, a4, b4⟩ := itemj_ev hb (p := q1 + 1 + 1) (by omega) hn 3 0 0 0 (rd [1, 2, 900] v3)
    refine ⟨x0, x1, x2, x3, x4, q, ?_, by omega, by omega⟩
    unfold spec_l20Item.f
    refine Ev.bind e1 (Ev.bind e2 ?_)
    simp only [if_neg h0, if_pos h1, Option.bind_some]
    refine Ev.bind e3 ?_
    simp only [if_pos a3, if_pos l1]
    exact e4
  · obtain ⟨x0, x1, x2, x3, x4, q, e4, a4, b4⟩ := itemj_ev hb (p := q1 + 1) (by omega) hn y0 y1 y2 y3 y4
    refine ⟨x0, x1, x2, x3, x4, q, ?_, by omega, by omega⟩
    unfold spec_l20Item.f
    refine Ev.bind e1 (Ev.bind e2 ?_)
    simp only [if_neg h0, if_neg h1]
    exact e4
theorem ite_ex {α : Type} {R : α → Prop} {c : Prop} [Decidable c] {f g : Nat → Option α} (h1 : c → ∃ r, Ev f r ∧ R r) (h2 : ¬ c → ∃ r, Ev g r ∧ R r) : ∃ r, Ev (fun k => if c then f k else g k) r ∧ R r := by
  by_cases h : c
  · simp only [if_pos h]
    exact h1 h
  · simp only [if_neg h]
    exact h2 h
theorem bind_ex {α β : Type} {R : β → Prop} {f : Nat → Option α} {a : α} (h : Ev f a) {g : Nat → α → Option β} (hg : ∃ r, Ev (fun k => g k a) r ∧ R r) : ∃ r, Ev (fun k => (f k).bind (g k)) r ∧ R r := by
  obtain ⟨r, hr, h2⟩ := hg
  exact ⟨r, Ev.bind h hr, h2⟩
theorem step_ex {α : Type} {R : α → Prop} {g f : Nat → Option α} (h : ∀ k, g (k + 1) = f k) (hf : ∃ r, Ev f r ∧ R r) : ∃ r, Ev g r ∧ R r := by
  obtain ⟨r, hr, h2⟩ := hf
  exact ⟨r, Ev.step h hr, h2⟩
theorem now_ex {α : Type} {R : α → Prop} (r : α) (h : R r) : ∃ r, Ev (fun _ => some r) r ∧ R r := ⟨r, Ev.now r, h⟩
theorem log_loop {b : List Int} (hb : Code b) (N : Int) (hN : N ≤ 16) (bh : Int) (d : Nat) : ∀ (l : List S47) (t m i p : Int), i + d = N → 0 ≤ i → (l.length : Int) ≤ i → 0 ≤ p → p + d * 20 ≤ 999990000 → ∃ r : List S47 × Int, Ev (fun k => spec_l20Log.l0 k N l t m bh i b p) r ∧ (1 ≤ r.1.length ∧ (r.1.length : Int) ≤ N + 1 ∧ p ≤ r.2 ∧ r.2 ≤ p + d * 20) := by
  induction d with
  | zero =>
    intro l t m i p hi hi0 hl hp0 hp1
    exact ⟨(l ++ [⟨2, 1000, 0, 0, 0⟩], p), Ev_now1 (fun k => by simp only [spec_l20Log.l0]; rw [if_neg (by omega), if_pos (by omega)]), by simp; omega⟩
  | succ d ih =>
    intro l t m i p hi hi0 hl hp0 hp1
    obtain ⟨v1, e1, a1, b1⟩ := pick_ev hb (p := p) (by omega) (n := 6) (by omega)
    obtain ⟨v2, e2, a2, b2⟩ := pick_ev hb (p := p + 1) (by omega) (n := 4) (by omega)
    have hw : wrap64 (i + 1) = i + 1 := wrap_id (by omega) (by omega)
    have again : ∀ (l' : List S47) (t' m' q : Int), (l'.length : Int) ≤ i + 1 → p ≤ q → q ≤ p + 20 → ∃ r : List S47 × Int, Ev (fun k => spec_l20Log.l0 k N l' t' m' bh (i + 1) b q) r ∧ (1 ≤ r.1.length ∧ (r.1.length : Int) ≤ N + 1 ∧ p ≤ r.2 ∧ r.2 ≤ p + (d + 1 : Nat) * 20) := by
      intro l' t' m' q h1 h2 h3
      obtain ⟨r, hr, c1, c2, c3, c4⟩ := ih l' t' m' (i + 1) q (by omega) (by omega) h1 (by omega) (by omega)
      exact ⟨r, hr, c1, c2, by omega, by omega⟩
    refine step_ex (f := fun k => _) (fun k => by simp only [spec_l20Log.l0]; rfl) ?_
    refine ite_ex (fun _ => ?_) (fun h => absurd (show i < N by omega) h)
    refine bind_ex e1 (bind_ex e2 ?_)
    simp only [hw]
    refine ite_ex (fun _ => ?_) (fun _ => ?_)
    · repeat' (refine ite_ex (fun _ => ?_) (fun _ => ?_))
      all_goals first | exact again _ _ _ _ (by first | omega | (simp; omega)) (by omega) (by omega) | (exfalso; omega)
    · obtain ⟨x0, x1, x2, x3, x4, q1, e3, a3, b3⟩ := rec_ev hb (p := p + 1 + 1) (by omega)
      obtain ⟨v4, e4, a4, b4⟩ := pick_ev hb (p := q1) (by omega) (n := 20) (by omega)
      obtain ⟨v5, e5, a5, b5⟩ := pick_ev hb (p := q1 + 1) (by omega) (n := 7) (by omega)
      obtain ⟨v6, e6, a6, b6⟩ := pick_ev hb (p := q1 + 1 + 1) (by omega) (n := 3) (by omega)
      have l5 : v5 < (([0, 0, 1, 2, 4, 8, v4] : List Int).length : Int) := by simpa using b5
      refine bind_ex e3 (bind_ex e4 ?_)
      simp only [Option.bind_some]
      refine bind_ex e5 ?_
      simp only [if_pos a5, if_pos l5]
      refine bind_ex e6 ?_
      repeat' (refine ite_ex (fun _ => ?_) (fun _ => ?_))
      all_goals first | exact again _ _ _ _ (by first | omega | (simp; omega)) (by omega) (by omega) | (exfalso; omega)
theorem log_ev {b : List Int} (hb : Code b) {p : Int} (hp : 0 ≤ p ∧ p ≤ 999980000) {N : Int} (h0 : 0 ≤ N) (hN : N ≤ 16) : ∃ r : List S47 × Int, Ev (fun k => spec_l20Log.f k b p N) r ∧ (1 ≤ r.1.length ∧ (r.1.length : Int) ≤ N + 1 ∧ p ≤ r.2 ∧ r.2 ≤ p + 400) := by
  obtain ⟨v1, e1, a1, b1⟩ := pick_ev hb (p := p) (by omega) (n := 5) (by omega)
  obtain ⟨v2, e2, a2, b2⟩ := pick_ev hb (p := p + 1) (by omega) (n := 6) (by omega)
  have l2 : v2 < (([0, 0, 1, 3, 7, 12] : List Int).length : Int) := by simpa using b2
  obtain ⟨r, hr, c1, c2, c3, c4⟩ := log_loop hb N hN (rd [0, 0, 1, 3, 7, 12] v2) N.toNat [] v1 0 0 (p + 1 + 1) (by omega) (by omega) (by simp) (by omega) (by omega)
  unfold spec_l20Log.f
  refine bind_ex e1 ?_
  simp only [Option.bind_some]
  refine bind_ex e2 ?_
  simp only [if_pos a2, if_pos l2]
  exact ⟨r, hr, c1, c2, by omega, by omega⟩
theorem anylog_loop {b : List Int} (hb : Code b) (d : Nat) : ∀ (l : List S47) (p : Int), l.length + d = 41 → 0 ≤ p → p + d * 4 ≤ 999990000 → ∃ r : List S47 × Int, Ev (fun k => spec_l20AnyLog.l0 k l b p) r ∧ (r.1.length ≤ 41 ∧ p ≤ r.2 ∧ r.2 ≤ p + d * 4) := by
  induction d with
  | zero =>
    intro l p hl hp0 hp1
    exact ⟨(l, p), Ev_now1 (fun k => by simp only [spec_l20AnyLog.l0]; rw [if_neg (by omega)]), by simp only; omega⟩
  | succ d ih =>
    intro l p hl hp0 hp1
    obtain ⟨x0, x1, x2, x3, x4, q1, e3, a3, b3⟩ := rec_ev hb (p := p) (by omega)
    obtain ⟨r, hr, c1, c2, c3⟩ := ih ([⟨x0, x1, x2, x3, x4⟩] ++ l) q1 (by simp; omega) (by omega) (by omega)
    refine step_ex (f := fun k => _) (fun k => by simp only [spec_l20AnyLog.l0]; rfl) ?_
    refine ite_ex (fun _ => ?_) (fun h => absurd (show (l.length : Int) ≤ 40 by omega) h)
    refine bind_ex e3 ?_
    simp only [Option.bind_some]
    refine ite_ex (fun _ => ⟨r, hr, c1, by omega, by omega⟩) (fun h => absurd (show _ < 3518437208883 by first | omega | (simp; omega)) h)
theorem anylog_ev {b : List Int} (hb : Code b) {p : Int} (hp : 0 ≤ p ∧ p ≤ 999970000) {n : Int} (hn : 1 ≤ n) : ∃ r : List S47 × Int, Ev (fun k => spec_l20AnyLog.f k b p n) r ∧ (r.1.length ≤ 41 ∧ p ≤ r.2 ∧ r.2 ≤ p + 700) := by
  obtain ⟨v1, e1, a1, b1⟩ := pick_ev hb (p := p) (by omega) (n := 16) (by omega)
  obtain ⟨⟨l, q⟩, e2, c1, c2, c3, c4⟩ := log_ev hb (p := p + 1) (by omega) (N := v1) (by omega) (by omega)
  simp only at c1 c2 c3 c4
  obtain ⟨v3, e3, a3, b3⟩ := pick_ev hb (p := q) (by omega) (n := n) hn
  obtain ⟨v4, e4, a4, b4⟩ := pick_ev hb (p := q + 1) (by omega) (n := (l.length : Int)) (by omega)
  obtain ⟨v5, e5, a5, b5⟩ := pick_ev hb (p := q + 1 + 1) (by omega) (n := 5) (by omega)
  have hw : wrap64 ((l.length : Int) - 1) = (l.length : Int) - 1 := wrap_id (by omega) (by omega)
  unfold spec_l20AnyLog.f
  refine bind_ex e1 (bind_ex e2 (bind_ex e3 ?_))
  refine ite_ex (fun _ => ?_) (fun _ => ?_)
  · exact ⟨_, Ev.now _, by first | omega | (simp only; omega) | (simp; omega)⟩
  refine bind_ex e4 (bind_ex e5 ?_)
  simp only [hw]
  refine ite_ex (fun _ => ?_) (fun _ => ite_ex (fun _ => ?_) (fun _ => ite_ex (fun _ => ?_) (fun _ => ite_ex (fun _ => ?_) (fun _ => ?_))))
  · obtain ⟨x0, x1, x2, x3, x4, q1, e6, a6, b6⟩ := item_ev hb (p := q + 1 + 1 + 1) (by omega) (n := 2) (by omega)
    refine bind_ex e6 ?_
    refine ite_ex (fun _ => ite_ex (fun _ => ⟨_, Ev.now _, by first | omega | (simp only; omega) | (simp; omega)⟩) (fun h => absurd b4 h)) (fun h => absurd a4 h)
  · refine ite_ex (fun _ => ite_ex (fun _ => ⟨_, Ev.now _, by first | omega | (simp only; omega) | (simp; omega)⟩) (fun h => absurd (show (l.length : Int) - 1 ≤ (l.length : Int) by omega) h)) (fun h => absurd (show 0 ≤ (l.length : Int) - 1 by omega) h)
  · obtain ⟨x0, x1, x2, x3, x4, q1, e6, a6, b6⟩ := item_ev hb (p := q + 1 + 1 + 1) (by omega) (n := 3) (by omega)
    refine bind_ex e6 ?_
    refine ite_ex (fun _ => ⟨_, Ev.now _, by first | omega | (simp only; omega) | (simp; omega)⟩) (fun h => absurd (show l.length < 3518437208883 by omega) h)
  · obtain ⟨v6, e6, a6, b6⟩ := pick_ev hb (p := q + 1 + 1 + 1) (by omega) (n := 60) (by omega)
    simp only [Option.bind_some]
    refine ite_ex (fun _ => ?_) (fun h => absurd a4 h)
    refine ite_ex (fun _ => ?_) (fun h => absurd (show v4 ≤ (l.length : Int) by omega) h)
    refine ite_ex (fun _ => ?_) (fun h => absurd (show _ < 3518437208883 by first | omega | (simp; omega)) h)
    refine bind_ex e6 ?_
    refine ite_ex (fun _ => ?_) (fun h => absurd (show _ < 3518437208883 by first | omega | (simp; omega)) h)
    refine ite_ex (fun _ => ⟨_, Ev.now _, by first | omega | (simp only; omega) | (simp; omega)⟩) (fun h => absurd (show _ < 3518437208883 by first | omega | (simp; omega)) h)
  · obtain ⟨r, hr, d1, d2, d3⟩ := anylog_loop hb (41 - l.length) l (q + 1 + 1 + 1) (by omega) (by omega) (by omega)
    exact ⟨r, hr, d1, by omega, by omega⟩
/-- One round: a record that is not too small is kept. -/
def stp (least : Int) (s : List S47) (x : S47) : List S47 := if x.f0 = 1 ∧ x.f3 ≥ least then s ++ [x] else s
theorem stp_le (least : Int) (s : List S47) (x : S47) : (stp least s x).length ≤ s.length + 1 := by
  unfold stp
  split <;> simp
theorem foldl_stp_le (least : Int) (l : List S47) (s : List S47) : (l.foldl (stp least) s).length ≤ s.length + l.length := by
  induction l generalizing s with
  | nil => simp
  | cons x l ih =>
    have h1 := ih (stp least s x)
    have h2 := stp_le least s x
    simp only [List.foldl_cons, List.length_cons]
    omega
theorem recs_spec (l : List S47) (least : Int) (hl : l.length ≤ 1048576) : Ev (fun k => spec_LogRecs.f k l least) (l.foldl (stp least) []) := by
  have h := Ev_run (fun k s i => spec_LogRecs.l0 k l least s i) l (fun s x => .inr (stp least s x)) id (fun j s => s.length ≤ j) (fun j s hj hi s' hs => by
      obtain rfl := Sum.inr.inj hs
      refine ⟨by have := stp_le least s l[j]; omega, fun r hr => Ev_eq hr (fun k => ?_)⟩
      simp only [spec_LogRecs.l0]
      rw [if_pos (by omega), if_pos (by omega), rd47_at l j hj, wrap_nat hj (by omega)]
      unfold stp
      by_cases h1 : l[j].f0 = 1
      · by_cases h2 : l[j].f3 ≥ least
        · rw [if_pos h1, if_pos h2, if_pos (by omega), if_pos ⟨h1, h2⟩]
        · rw [if_pos h1, if_neg h2, if_neg (fun h => h2 h.2)]
      · rw [if_neg h1, if_neg (fun h => h1 h.1)]) (fun j s hj _ r h => by cases h) (fun s _ => Ev_now1 (fun k => by simp only [spec_LogRecs.l0]; rw [if_neg (by omega)]; rfl)) [] (by simp)
  rw [runL_fold] at h
  exact h
theorem recs_impl (l : List S47) (least : Int) (hl : l.length ≤ 1048576) : Ev (fun k => impl_LogRecs.f k l least) (l.foldl (stp least) []) := by
  have h := Ev_run (fun k s i => impl_LogRecs.l0 k least s l (l.length : Int) i) l (fun s x => .inr (stp least s x)) id (fun j s => s.length ≤ j) (fun j s hj hi s' hs => by
      obtain rfl := Sum.inr.inj hs
      refine ⟨by have := stp_le least s l[j]; omega, fun r hr => Ev_eq hr (fun k => ?_)⟩
      simp only [impl_LogRecs.l0]
      rw [if_pos (by omega), if_pos (by omega), if_pos (by omega), rd47_at l j hj, wrap_nat hj (by omega)]
      unfold stp
      by_cases h1 : l[j].f0 = 1
      · by_cases h2 : l[j].f3 ≥ least
        · rw [if_pos h1, if_pos h2, if_pos (by omega), if_pos ⟨h1, h2⟩]
        · rw [if_pos h1, if_neg h2, if_neg (fun h => h2 h.2)]
      · rw [if_neg h1, if_neg (fun h => h1 h.1)]) (fun j s hj _ r h => by cases h) (fun s _ => Ev_now1 (fun k => by simp only [impl_LogRecs.l0]; rw [if_neg (by omega)]; rfl)) [] (by simp)
  rw [runL_fold] at h
  exact h
theorem frItems_ev (l : List S47) (hl : l.length ≤ 1048576) : Ev (fun k => laws_frItems.f k l l) true := by
  have h := loop (fun k (_ : Unit) i => laws_frItems.l0 k l l i) l.length (fun _ _ => True) (fun r => r = true)
    (fun j s hj _ => .inl ⟨(), trivial, fun r hr => Ev_eq hr (fun k => by
      simp only [laws_frItems.l0]
      rw [if_pos (by omega), if_pos (by omega), if_pos (by omega), wrap_nat hj (by omega)]
      simp)⟩)
    (fun s _ => ⟨true, Ev_now1 (fun k => by simp only [laws_frItems.l0]; rw [if_neg (by omega)]), rfl⟩) () trivial
  obtain ⟨r, hr, rfl⟩ := h
  unfold laws_frItems.f
  simp only [if_true]
  exact hr
theorem mx_is (a b : Int) : mx a b = if b > a then b else a := rfl
theorem mn_is (a b : Int) : mn a b = if b < a then b else a := rfl
theorem mn_le (a b : Int) : mn a b ≤ a ∧ mn a b ≤ b ∧ (mn a b = a ∨ mn a b = b) := by rw [mn_is]; split <;> omega
theorem mx_ge (a b : Int) : a ≤ mx a b ∧ b ≤ mx a b ∧ (mx a b = a ∨ mx a b = b) := by rw [mx_is]; split <;> omega
theorem mn_comm (a b : Int) : mn a b = mn b a := by rw [mn_is, mn_is]; split <;> split <;> omega
theorem mx_comm (a b : Int) : mx a b = mx b a := by rw [mx_is, mx_is]; split <;> split <;> omega
theorem mn_assoc (a b c : Int) : mn (mn a b) c = mn a (mn b c) := by
  have h1 := mn_le a b; have h2 := mn_le b c; have h3 := mn_le (mn a b) c; have h4 := mn_le a (mn b c); omega
theorem mx_assoc (a b c : Int) : mx (mx a b) c = mx a (mx b c) := by
  have h1 := mx_ge a b; have h2 := mx_ge b c; have h3 := mx_ge (mx a b) c; have h4 := mx_ge a (mx b c); omega
/-- Both, as a function. -/
def both (a b : Int × Int × Int × Int) : Int × Int × Int × Int :=
  if a.1 = 0 then b else if b.1 = 0 then a else (wrap64 (a.1 + b.1), wrap64 (a.2.1 + b.2.1), mn a.2.2.1 b.2.2.1, mx a.2.2.2 b.2.2.2)
theorem implBoth_is (a0 a1 a2 a3 b0 b1 b2 b3 : Int) : impl_AggBoth.f a0 a1 a2 a3 b0 b1 b2 b3 = some (both (a0, a1, a2, a3) (b0, b1, b2, b3)) := by
  unfold impl_AggBoth.f both
  simp only
  split
  · rfl
  · split <;> rfl
theorem implAdd_is (a0 a1 a2 a3 v : Int) : impl_AggAdd.f a0 a1 a2 a3 v = some (both (a0, a1, a2, a3) (1, v, v, v)) := by
  unfold impl_AggAdd.f
  rw [implBoth_is]
  rfl
/-- A sum. -/
def su : List Int → Int
  | [] => 0
  | x :: l => x + su l
theorem su_append (l m : List Int) : su (l ++ m) = su l + su m := by
  induction l with
  | nil => simp [su]
  | cons x l ih => simp only [List.cons_append, su, ih]; omega
theorem su_reverse (l : List Int) : su l.reverse = su l := by
  induction l with
  | nil => rfl
  | cons x l ih => rw [List.reverse_cons, su_append, ih]; simp only [su]; omega
/-- What an aggregate of a list is. -/
structure IsF (l : List Int) (a : Int × Int × Int × Int) : Prop where
  n : a.1 = (l.length : Int)
  s1 : l.length = 1 → a.2.1 = su l
  s2 : l.length ≠ 1 → a.2.1 = wrap64 (su l)
  e : l = [] → a.2.2 = (0, 0)
  lo : l ≠ [] → a.2.2.1 ∈ l ∧ ∀ x ∈ l, a.2.2.1 ≤ x
  hi : l ≠ [] → a.2.2.2 ∈ l ∧ ∀ x ∈ l, x ≤ a.2.2.2
theorem isF_nil : IsF [] (0, 0, 0, 0) := ⟨rfl, fun h => by simp at h, fun _ => by simp only [su]; rw [wrap_id (by omega) (by omega)], fun _ => rfl, fun h => absurd rfl h, fun h => absurd rfl h⟩
theorem isF_one (v : Int) : IsF [v] (1, v, v, v) := ⟨rfl, fun _ => by simp [su], fun h => absurd rfl h, fun h => by simp at h, fun _ => ⟨by simp, by simp⟩, fun _ => ⟨by simp, by simp⟩⟩
theorem isF_zero {l : List Int} {a : Int × Int × Int × Int} (h : IsF l a) (h0 : a.1 = 0) : l = [] := by
  have := h.n
  exact List.eq_nil_of_length_eq_zero (by omega)
theorem isF_join {l m : List Int} {a b : Int × Int × Int × Int} (ha : IsF l a) (hb : IsF m b) (hl : l.length + m.length ≤ 1000000) : IsF (l ++ m) (both a b) := by
  unfold both
  by_cases h0 : a.1 = 0
  · rw [if_pos h0]
    rw [isF_zero ha h0]
    exact hb
  · rw [if_neg h0]
    by_cases h1 : b.1 = 0
    · rw [if_pos h1, isF_zero hb h1, List.append_nil]
      exact ha
    · rw [if_neg h1]
      have na := ha.n
      have nb := hb.n
      have hla : l ≠ [] := fun h => h0 (by rw [na, h]; rfl)
      have hlb : m ≠ [] := fun h => h1 (by rw [nb, h]; rfl)
      have ca : 0 < l.length := List.length_pos_iff.mpr hla
      have cb : 0 < m.length := List.length_pos_iff.mpr hlb
      have sa : a.2.1 = su l ∨ a.2.1 = wrap64 (su l) := by
        by_cases h : l.length = 1
        · exact .inl (ha.s1 h)
        · exact .inr (ha.s2 h)
      have sb : b.2.1 = su m ∨ b.2.1 = wrap64 (su m) := by
        by_cases h : m.length = 1
        · exact .inl (hb.s1 h)
        · exact .inr (hb.s2 h)
      obtain ⟨l1, l2⟩ := ha.lo hla
      obtain ⟨l3, l4⟩ := hb.lo hlb
      obtain ⟨g1, g2⟩ := ha.hi hla
      obtain ⟨g3, g4⟩ := hb.hi hlb
      refine ⟨?_, fun h => ?_, fun _ => ?_, fun h => ?_, fun _ => ⟨?_, fun x hx => ?_⟩, fun _ => ⟨?_, fun x hx => ?_⟩⟩
      · simp only
        rw [na, nb, wrap_id (by omega) (by omega), List.length_append]
        omega
      · rw [List.length_append] at h
        omega
      · rw [su_append]
        simp only
        rcases sa with sa | sa <;> rcases sb with sb | sb <;> rw [sa, sb] <;> unfold wrap64 <;> omega
      · exact absurd (List.append_eq_nil_iff.mp h).1 hla
      · simp only
        rcases (mn_le a.2.2.1 b.2.2.1).2.2 with e | e <;> rw [e]
        · exact List.mem_append.mpr (.inl l1)
        · exact List.mem_append.mpr (.inr l3)
      · have := mn_le a.2.2.1 b.2.2.1
        simp only
        rcases List.mem_append.mp hx with hx | hx
        · have := l2 x hx
          omega
        · have := l4 x hx
          omega
      · simp only
        rcases (mx_ge a.2.2.2 b.2.2.2).2.2 with e | e <;> rw [e]
        · exact List.mem_append.mpr (.inl g1)
        · exact List.mem_append.mpr (.inr g3)
      · have := mx_ge a.2.2.2 b.2.2.2
        simp only
        rcases List.mem_append.mp hx with hx | hx
        · have := g2 x hx
          omega
        · have := g4 x hx
          omega
theorem isF_uniq {l m : List Int} {a b : Int × Int × Int × Int} (ha : IsF l a) (hb : IsF m b) (h1 : l.length = m.length) (h2 : su l = su m) (h3 : ∀ x, x ∈ l ↔ x ∈ m) : a = b := by
  obtain ⟨a0, a1, a2, a3⟩ := a
  obtain ⟨b0, b1, b2, b3⟩ := b
  have e0 : a0 = b0 := by
    have x := ha.n
    have y := hb.n
    simp only at x y
    omega
  have e1 : a1 = b1 := by
    by_cases h : l.length = 1
    · have x := ha.s1 h
      have y := hb.s1 (by omega)
      simp only at x y
      omega
    · have x := ha.s2 h
      have y := hb.s2 (by omega)
      simp only at x y
      rw [x, y, h2]
  by_cases hl : l = []
  · have hm : m = [] := List.eq_nil_of_length_eq_zero (by rw [← h1, hl]; rfl)
    have x := ha.e hl
    have y := hb.e hm
    simp only at x y
    rw [e0, e1, x, y]
  · have hm : m ≠ [] := fun h => hl (List.eq_nil_of_length_eq_zero (by rw [h1, h]; rfl))
    obtain ⟨p1, p2⟩ := ha.lo hl
    obtain ⟨p3, p4⟩ := hb.lo hm
    obtain ⟨p5, p6⟩ := ha.hi hl
    obtain ⟨p7, p8⟩ := hb.hi hm
    simp only at p1 p2 p3 p4 p5 p6 p7 p8
    have e2 : a2 = b2 := by
      have x := p2 b2 ((h3 b2).mpr p3)
      have y := p4 a2 ((h3 a2).mp p1)
      omega
    have e3 : a3 = b3 := by
      have x := p6 b3 ((h3 b3).mpr p7)
      have y := p8 a3 ((h3 a3).mp p5)
      omega
    rw [e0, e1, e2, e3]
theorem take_succ' (l : List Int) (j : Nat) (h : j < l.length) : l.take (j + 1) = l.take j ++ [l[j]] := List.take_succ_eq_append_getElem h
theorem fold_end (g : List S47) (vs : List Int) (hv : vs = g.map fun x => x.f3) (hg : g.length ≤ 1000) (K : Nat) (hK : K ≤ g.length) (a b c : Int × Int × Int × Int) (ha : IsF vs a) (hb : IsF vs.reverse b) (hc : IsF (vs.take K) c) :
    Ev (fun k => laws_FnAggFold.l1 k g (K : Int) a.1 a.2.1 a.2.2.1 a.2.2.2 b.1 b.2.1 b.2.2.1 b.2.2.2 c.1 c.2.1 c.2.2.1 c.2.2.2 0 0 0 0) true := by
  have hvl : vs.length = g.length := by rw [hv, List.length_map]
  have hab : b = a := isF_uniq hb ha (by simp) (su_reverse vs) (fun x => List.mem_reverse)
  have hs := loop (fun k (s : Int × Int × Int × Int) i => laws_FnAggFold.l1 k g ((K : Int) + i) a.1 a.2.1 a.2.2.1 a.2.2.2 b.1 b.2.1 b.2.2.1 b.2.2.2 c.1 c.2.1 c.2.2.1 c.2.2.2 s.1 s.2.1 s.2.2.1 s.2.2.2) (g.length - K) (fun j s => IsF ((vs.drop K).take j) s) (fun z => z = true)
    (fun j s hj hi => by
      have hlen : j < (vs.drop K).length := by rw [List.length_drop]; omega
      have hgj : K + j < g.length := by omega
      have hval : (vs.drop K)[j] = g[K + j].f3 := by
        rw [List.getElem_drop]
        simp only [hv, List.getElem_map]
      refine .inl ⟨both s (1, g[K + j].f3, g[K + j].f3, g[K + j].f3), ?_, fun r hr => Ev_eq hr (fun k => ?_)⟩
      · rw [take_succ' _ j hlen, hval]
        exact isF_join hi (isF_one _) (by simp; omega)
      · have e : (K : Int) + (j : Int) = ((K + j : Nat) : Int) := by omega
        simp only [laws_FnAggFold.l1]
        rw [e, if_pos (by omega), if_pos (by omega), rd47_at g (K + j) hgj, implAdd_is, wrap_nat hgj (by omega)]
        simp only [Option.bind_some]
        rw [show (K : Int) + ((j : Int) + 1) = ((K + j : Nat) : Int) + 1 by omega])
    (fun s hi => by
      have ht : (vs.drop K).take (g.length - K) = vs.drop K := List.take_of_length_le (by rw [List.length_drop]; omega)
      rw [ht] at hi
      have hj := isF_join hc hi (by rw [← List.length_append, List.take_append_drop]; omega)
      rw [List.take_append_drop] at hj
      have hcd : both c s = a := isF_uniq hj ha rfl rfl (fun _ => Iff.rfl)
      refine ⟨true, Ev_now1 (fun k => ?_), rfl⟩
      have hn := ha.n
      have hw : wrap64 ((g.length : Int) + 1) = (g.length : Int) + 1 := wrap_id (by omega) (by omega)
      simp only [laws_FnAggFold.l1]
      rw [if_neg (by omega), hab, implBoth_is, show ((c.1, c.2.1, c.2.2.1, c.2.2.2) : Int × Int × Int × Int) = c from rfl, show ((s.1, s.2.1, s.2.2.1, s.2.2.2) : Int × Int × Int × Int) = s from rfl, hcd]
      simp only [beq_self_eq_true, Bool.and_self, if_true, Option.bind_some]
      rw [if_pos (by omega), implAdd_is]
      simp only [Option.bind_some, impl_AggTell.f, if_true, hw]
      congr 1
      have hx := isF_join ha (isF_one 1) (by simp; omega)
      have := hx.n
      rw [show ((a.1, a.2.1, a.2.2.1, a.2.2.2) : Int × Int × Int × Int) = a from rfl, this, List.length_append]
      simp [hvl]) (0, 0, 0, 0) (by simpa using isF_nil)
  obtain ⟨z, hz, rfl⟩ := hs
  simpa using hz
theorem FnAggFold : laws_FnAggFold.Pure := by
  intro l _ _ hx
  apply Ev.rounds
  unfold laws_FnAggFold.f
  by_cases hl : (l.length : Int) > 1048576
  · simp only [if_pos hl]
    exact Ev.now _
  · simp only [if_neg hl]
    obtain ⟨b, ho, hb⟩ := open_ev (l := l) (by omega) hx
    obtain ⟨⟨g, q⟩, e1, c1, c2, c3⟩ := anylog_ev hb (p := 0) (by omega) (n := 8) (by omega)
    simp only at c1 c2 c3
    obtain ⟨v, e2, d1, d2⟩ := pick_ev hb (p := q) (by omega) (n := 19) (by omega)
    have hd : Ev (fun k => spec_DrawLogRecs.f k l) (g, wrap64 (v - 9)) := by
      unfold spec_DrawLogRecs.f
      rw [ho]
      simp only [Option.bind_some]
      exact Ev.bind e1 (Ev.bind e2 (Ev.now _))
    have hg : g.length ≤ 1048576 := by omega
    refine Ev.bind hd (Ev.bind (recs_impl g _ hg) (Ev.bind (recs_spec g _ hg) ?_))
    have hm := foldl_stp_le (wrap64 (v - 9)) g []
    simp only [List.length_nil, Nat.zero_add] at hm
    generalize g.foldl (stp (wrap64 (v - 9))) [] = m at hm
    refine Ev.bind (frItems_ev m (by omega)) ?_
    have hw : wrap64 ((m.length : Int) + 1) = (m.length : Int) + 1 := wrap_id (by omega) (by omega)
    simp only [if_true, hw, if_neg (show ¬ (m.length : Int) + 1 = 0 by omega)]
    have hk0 : 0 ≤ (l.length : Int) % ((m.length : Int) + 1) := Int.emod_nonneg _ (by omega)
    have hk1 : (l.length : Int) % ((m.length : Int) + 1) < (m.length : Int) + 1 := Int.emod_lt_of_pos _ (by omega)
    obtain ⟨K, hK⟩ := Int.eq_ofNat_of_zero_le hk0
    rw [hK] at hk1 ⊢
    have hKl : K ≤ m.length := by omega
    generalize hv : (m.map fun x => x.f3) = vs
    have hvl : vs.length = m.length := by rw [← hv, List.length_map]
    have hs := loop (fun k (s : (Int × Int × Int × Int) × (Int × Int × Int × Int) × (Int × Int × Int × Int)) i => laws_FnAggFold.l0 k m (K : Int) i s.1.1 s.1.2.1 s.1.2.2.1 s.1.2.2.2 s.2.1.1 s.2.1.2.1 s.2.1.2.2.1 s.2.1.2.2.2 s.2.2.1 s.2.2.2.1 s.2.2.2.2.1 s.2.2.2.2.2) m.length (fun j s => IsF (vs.take j) s.1 ∧ IsF (vs.reverse.take j) s.2.1 ∧ IsF (vs.take (min j K)) s.2.2) (fun z => z = true)
      (fun j s hj hi => by
        obtain ⟨a, b, c⟩ := s
        obtain ⟨ha, hb, hc⟩ := hi
        simp only at ha hb hc
        have hjv : j < vs.length := by omega
        have hjr : j < vs.reverse.length := by rw [List.length_reverse]; omega
        have hr0 : m.length - 1 - j < m.length := by omega
        have e1 : vs[j] = m[j].f3 := by simp only [← hv, List.getElem_map]
        have e2 : vs.reverse[j] = m[m.length - 1 - j].f3 := by
          rw [List.getElem_reverse]
          simp only [← hv, List.getElem_map, List.length_map]
        have ha' : IsF (vs.take (j + 1)) (both a (1, m[j].f3, m[j].f3, m[j].f3)) := by
          rw [take_succ' _ j hjv, e1]
          exact isF_join ha (isF_one _) (by simp; omega)
        have hb' : IsF (vs.reverse.take (j + 1)) (both b (1, m[m.length - 1 - j].f3, m[m.length - 1 - j].f3, m[m.length - 1 - j].f3)) := by
          rw [take_succ' _ j hjr, e2]
          exact isF_join hb (isF_one _) (by simp; omega)
        have hwj : wrap64 (wrap64 ((m.length : Int) - 1) - (j : Int)) = ((m.length - 1 - j : Nat) : Int) := by rw [wrap_id (x := (m.length : Int) - 1) (by omega) (by omega), wrap_id (by omega) (by omega)]; omega
        by_cases hjk : j < K
        · have hc' : IsF (vs.take (min (j + 1) K)) (both c (1, m[j].f3, m[j].f3, m[j].f3)) := by
            rw [Nat.min_eq_left (by omega)] at hc ⊢
            rw [take_succ' _ j hjv, e1]
            exact isF_join hc (isF_one _) (by simp; omega)
          refine .inl ⟨(both a (1, m[j].f3, m[j].f3, m[j].f3), both b (1, m[m.length - 1 - j].f3, m[m.length - 1 - j].f3, m[m.length - 1 - j].f3), both c (1, m[j].f3, m[j].f3, m[j].f3)), ⟨ha', hb', hc'⟩, fun r hr => Ev_eq hr (fun k => ?_)⟩
          simp only [laws_FnAggFold.l0]
          rw [hwj, if_pos (by omega), if_pos (by omega), rd47_at m j hj, implAdd_is]
          simp only [Option.bind_some]
          rw [if_pos (by omega), if_pos (by omega), rd47_at m _ hr0, implAdd_is]
          simp only [Option.bind_some]
          rw [if_pos (by omega), implAdd_is, wrap_nat hj (by omega)]
          rfl
        · have hc' : IsF (vs.take (min (j + 1) K)) c := by
            rw [Nat.min_eq_right (by omega)] at hc ⊢
            exact hc
          refine .inl ⟨(both a (1, m[j].f3, m[j].f3, m[j].f3), both b (1, m[m.length - 1 - j].f3, m[m.length - 1 - j].f3, m[m.length - 1 - j].f3), c), ⟨ha', hb', hc'⟩, fun r hr => Ev_eq hr (fun k => ?_)⟩
          simp only [laws_FnAggFold.l0]
          rw [hwj, if_pos (by omega), if_pos (by omega), rd47_at m j hj, implAdd_is]
          simp only [Option.bind_some]
          rw [if_pos (by omega), if_pos (by omega), rd47_at m _ hr0, implAdd_is]
          simp only [Option.bind_some]
          rw [if_neg (by omega), wrap_nat hj (by omega)])
      (fun s hi => by
        obtain ⟨a, b, c⟩ := s
        obtain ⟨ha, hb, hc⟩ := hi
        simp only at ha hb hc
        rw [List.take_of_length_le (by omega)] at ha
        rw [List.take_of_length_le (by rw [List.length_reverse]; omega)] at hb
        rw [Nat.min_eq_right hKl] at hc
        exact ⟨true, Ev_eq (fold_end m vs hv.symm (by omega) K hKl a b c ha hb hc) (fun k => by simp only [laws_FnAggFold.l0]; rw [if_neg (by omega)]), rfl⟩)
      ((0, 0, 0, 0), (0, 0, 0, 0), (0, 0, 0, 0)) ⟨by simpa using isF_nil, by simpa using isF_nil, by simpa using isF_nil⟩
    obtain ⟨z, hz, rfl⟩ := hs
    exact hz

end Go.Proofs.Ytofhaglklhmilaa.Pure
