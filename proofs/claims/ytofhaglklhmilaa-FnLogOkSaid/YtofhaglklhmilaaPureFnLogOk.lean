/- The law FnLogOk over numbers and lists: the Lean function of it that was printed answers true. No condition but that each number is one of its kind. -/
import Derived.Test.YtofhaglklhmilaaQFnLogOkx7
import Derived.Test.YtofhaglklhmilaaAid
set_option linter.unusedVariables false
set_option linter.unusedSimpArgs false
namespace Go.Proofs.Ytofhaglklhmilaa.Pure
open Go.RowKit Go.Proofs.Ytofhaglklhmilaa.PFnLogOk Go.Proofs.YtofhaglklhmilaaW.PrintWords Go.Proofs.YtofhaglklhmilaaW.PrintLast Go.Proofs.Ytofhaglklhmilaa.Aid

theorem rd47_at (l : List S47) (j : Nat) (h : j < l.length) : rd_T47 l (j : Int) = l[j] := by simp [rd_T47, List.getD_eq_getElem?_getD, h]
/-- A code that may be read: bytes, not too many. -/
def Code (b : List Int) : Prop := b.length ≤ 2000 ∧ ∀ x ∈ b, 0 ≤ x ∧ x ≤ 255
theorem code_rd {b : List Int} (hb : Code b) (i : Int) : 0 ≤ rd b i ∧ rd b i ≤ 255 := by
  unfold rd
  rw [List.getD_eq_getElem?_getD]
  rcases Nat.lt_or_ge i.toNat b.length with h | h
  · rw [List.getElem?_eq_getElem h]
    exact hb.2 _ (List.getElem_mem h)
  · rw [List.getElem?_eq_none h]
    exact ⟨Int.le_refl _, by decide⟩
theorem xor_pos (x y : Int) (hx : 0 ≤ x ∧ x < 4611686018427387904) (hy : 0 ≤ y ∧ y < 4611686018427387904) : 0 ≤ Go.bits .xor .i64 x y := by
  obtain ⟨a, rfl⟩ := Int.eq_ofNat_of_zero_le hx.1
  obtain ⟨b, rfl⟩ := Int.eq_ofNat_of_zero_le hy.1
  have ha : a < 2 ^ 62 := by omega
  have hb : b < 2 ^ 62 := by omega
  have ha' : a % 2 ^ IntKind.i64.bits = a := Nat.mod_eq_of_lt (Nat.lt_of_lt_of_le ha (by decide))
  have hb' : b % 2 ^ IntKind.i64.bits = b := Nat.mod_eq_of_lt (Nat.lt_of_lt_of_le hb (by decide))
  have hxr : a ^^^ b < 2 ^ 62 := Nat.xor_lt_two_pow ha hb
  simp only [Go.bits, BitVec.ofInt_natCast, BitVec.toNat_xor, BitVec.toNat_ofNat, ha', hb']
  rw [IntKind.wrap_i64]
  have : ((a ^^^ b : Nat) : Int) < 2 ^ 62 := by exact_mod_cast hxr
  omega
theorem tmod_in (x n : Int) (hx : 0 ≤ x) (hn : 1 ≤ n) : 0 ≤ Int.tmod x n ∧ Int.tmod x n < n :=
  ⟨Int.tmod_nonneg _ hx, Int.tmod_lt_of_pos _ (by omega)⟩
theorem pick_ev {b : List Int} (hb : Code b) {p : Int} (hp : 0 ≤ p ∧ p ≤ 1000000000) {n : Int} (hn : 1 ≤ n) : ∃ v, Ev (fun k => spec_l20Rd_pick.f k b p n) (v, p + 1) ∧ 0 ≤ v ∧ v < n := by
  have hl := hb.1
  have hw : wrap64 (p + 1) = p + 1 := wrap_id (by omega) (by omega)
  have hw2 : wrap64 (p + 1 - 1) = p := by rw [wrap_id (by omega) (by omega)]; omega
  have e0 : ∀ k, spec_l20Rd_pick.f k b p n = spec_l20Rd_pick.j0 k n ((b.length : Int) == 0) b (p + 1) := fun k => by
    unfold spec_l20Rd_pick.f
    rw [if_neg (by omega), hw]
  by_cases hz : b.length = 0
  · refine ⟨0, Ev.congr e0 (Ev_now1 (fun k => ?_)), by omega, by omega⟩
    simp only [spec_l20Rd_pick.j0]
    rw [if_pos (by simp [hz])]
  · have hz' : ((b.length : Int) == 0) = false := by simpa using hz
    have hlp : (1 : Int) ≤ (b.length : Int) := by omega
    rw [hz'] at e0
    by_cases h1 : p < (b.length : Int)
    · have hr := code_rd hb p
      have hwr : wrap64 (rd b p) = rd b p := wrap_id (by omega) (by omega)
      obtain ⟨t0, t1⟩ := tmod_in (rd b p) n hr.1 hn
      refine ⟨Int.tmod (rd b p) n, Ev.congr e0 (Ev_now1 (fun k => ?_)), t0, t1⟩
      simp only [spec_l20Rd_pick.j0]
      rw [if_neg (by simp), hw2, if_pos h1, if_pos hp.1, if_neg (by omega), hwr]
    · obtain ⟨t0, t1⟩ := tmod_in p (b.length : Int) hp.1 hlp
      have w7 : wrap64 (p * 7) = p * 7 := wrap_id (by omega) (by omega)
      have w73 : wrap64 (p * 7 + 3) = p * 7 + 3 := wrap_id (by omega) (by omega)
      obtain ⟨s0, s1⟩ := tmod_in (p * 7 + 3) (b.length : Int) (by omega) hlp
      have ra := code_rd hb (Int.tmod p (b.length : Int))
      have rb := code_rd hb (Int.tmod (p * 7 + 3) (b.length : Int))
      have hd0 : 0 ≤ Int.tdiv p (b.length : Int) := Int.tdiv_nonneg hp.1 (by omega)
      have hd1 : Int.tdiv p (b.length : Int) ≤ p := by
        rw [Int.tdiv_eq_ediv_of_nonneg hp.1]
        exact Int.ediv_le_self _ hp.1
      generalize hA : rd b (Int.tmod p (b.length : Int)) = A at ra
      generalize hB : rd b (Int.tmod (p * 7 + 3) (b.length : Int)) = B at rb
      generalize hD : Int.tdiv p (b.length : Int) = D at hd0 hd1
      have v1 : wrap64 A = A := wrap_id (by omega) (by omega)
      have v2 : wrap64 (A * 131) = A * 131 := wrap_id (by omega) (by omega)
      have v3 : wrap64 B = B := wrap_id (by omega) (by omega)
      have v4 : wrap64 (B * 1117) = B * 1117 := wrap_id (by omega) (by omega)
      have v5 : wrap64 (A * 131 + B * 1117) = A * 131 + B * 1117 := wrap_id (by omega) (by omega)
      have v6 : wrap64 (p * 29) = p * 29 := wrap_id (by omega) (by omega)
      have v7 : wrap64 (A * 131 + B * 1117 + p * 29) = A * 131 + B * 1117 + p * 29 := wrap_id (by omega) (by omega)
      have v8 : wrap64 D = D := wrap_id (by omega) (by omega)
      have v9 : wrap64 (D * 53) = D * 53 := wrap_id (by omega) (by omega)
      have v10 : wrap64 (A * 131 + B * 1117 + p * 29 + D * 53) = A * 131 + B * 1117 + p * 29 + D * 53 := wrap_id (by omega) (by omega)
      have hx0 : 0 ≤ A * 131 + B * 1117 + p * 29 + D * 53 ∧ A * 131 + B * 1117 + p * 29 + D * 53 < 4611686018427387904 := by omega
      generalize hX : A * 131 + B * 1117 + p * 29 + D * 53 = X at v10 hx0
      have hq0 : 0 ≤ Int.tdiv X 64 := Int.tdiv_nonneg hx0.1 (by omega)
      have hq1 : Int.tdiv X 64 ≤ X := by
        rw [Int.tdiv_eq_ediv_of_nonneg hx0.1]
        omega
      have v11 : wrap64 (Int.tdiv X 64) = Int.tdiv X 64 := wrap_id (by omega) (by omega)
      have hxor := xor_pos X (Int.tdiv X 64) hx0 ⟨hq0, by omega⟩
      obtain ⟨u0, u1⟩ := tmod_in _ n hxor hn
      refine ⟨Int.tmod (Go.bits .xor .i64 X (Int.tdiv X 64)) n, Ev.congr e0 (Ev_now1 (fun k => ?_)), u0, u1⟩
      simp only [spec_l20Rd_pick.j0]
      rw [if_neg (by simp), hw2, if_neg h1, if_neg (by omega), if_pos t0, if_pos t1]
      simp only [w7, w73]
      rw [if_pos s0, if_pos s1, if_neg (by omega)]
      simp only [hA, hB, hD, v1, v2, v3, v4, v5, v6, v7, v8, v9, v10, hX, v11]
theorem open_ev {l : List Int} (hl : l.length ≤ 1048576) (hb : ∀ x ∈ l, (Lit.int .u8 x).wf = true) : ∃ b, spec_l20Open.f l = some (b, 0) ∧ Code b := by
  have hx : ∀ x ∈ l, 0 ≤ x ∧ x ≤ 255 := fun x h => by
    have := hb x h
    simp only [Lit.wf, Bool.and_eq_true, decide_eq_true_eq] at this
    have a : IntKind.u8.min = 0 := by decide
    have b : IntKind.u8.max = 255 := by decide
    omega
  unfold spec_l20Open.f
  by_cases h : (l.length : Int) > 2000
  · rw [if_pos h, if_pos (by omega)]
    exact ⟨_, rfl, by simp; omega, fun x hm => hx x (List.mem_of_mem_take hm)⟩
  · rw [if_neg h]
    exact ⟨_, rfl, by omega, hx⟩
theorem rdlit (xs : List Int) (i : Int) (h0 : 0 ≤ i) (h1 : i < (xs.length : Int)) : rd xs i ∈ xs := by
  unfold rd
  have h : i.toNat < xs.length := by omega
  rw [List.getD_eq_getElem?_getD, List.getElem?_eq_getElem h]
  exact List.getElem_mem h
theorem rec_ev {b : List Int} (hb : Code b) {p : Int} (hp : 0 ≤ p ∧ p ≤ 999999900) : ∃ x0 x1 x2 x3 x4 q, Ev (fun k => spec_l20Rec.f k b p) (x0, x1, x2, x3, x4, q) ∧ p ≤ q ∧ q ≤ p + 4 := by
  obtain ⟨v1, e1, a1, b1⟩ := pick_ev hb (p := p) (by omega) (n := 61) (by omega)
  obtain ⟨v2, e2, a2, b2⟩ := pick_ev hb (p := p + 1) (by omega) (n := 6) (by omega)
  obtain ⟨v3, e3, a3, b3⟩ := pick_ev hb (p := p + 1 + 1) (by omega) (n := 4) (by omega)
  obtain ⟨v4, e4, a4, b4⟩ := pick_ev hb (p := p + 1 + 1 + 1) (by omega) (n := 19) (by omega)
  have l1 : v2 < (([0, 1, 5, 20, 60, v1] : List Int).length : Int) := by simpa using b2
  refine ⟨?_, ?_, ?_, ?_, ?_, ?_, ?e, ?_, ?_⟩
  case e =>
    unfold spec_l20Rec.f
    refine Ev.bind e1 ?_
    simp only [Option.bind_some]
    refine Ev.bind e2 ?_
    simp only [if_pos a2, if_pos l1]
    refine Ev.bind e3 (Ev.bind e4 ?_)
    exact Ev.now _
  all_goals omega
theorem itemj_ev {b : List Int} (hb : Code b) {p : Int} (hp : 0 ≤ p ∧ p ≤ 999999900) {n : Int} (hn : 1 ≤ n) (y0 y1 y2 y3 y4 : Int) : ∃ x0 x1 x2 x3 x4 q, Ev (fun k => spec_l20Item.j0 k n b p y0 y1 y2 y3 y4) (x0, x1, x2, x3, x4, q) ∧ p ≤ q ∧ q ≤ p + 3 := by
  obtain ⟨v1, e1, a1, b1⟩ := pick_ev hb (p := p) (by omega) (n := n) hn
  by_cases h1 : v1 > 0
  · refine ⟨?_, ?_, ?_, ?_, ?_, ?_, Ev.step (fun k => by simp only [spec_l20Item.j0]; rfl) (Ev.bind e1 ?e), ?_, ?_⟩
    case e =>
      simp only [if_pos h1]
      exact Ev.now _
    all_goals omega
  · obtain ⟨v2, e2, a2, b2⟩ := pick_ev hb (p := p + 1) (by omega) (n := 7) (by omega)
    obtain ⟨v3, e3, a3, b3⟩ := pick_ev hb (p := p + 1 + 1) (by omega) (n := 5) (by omega)
    have l1 : v2 < (([(-1), 0, 61, 4, 10, 1000, 901] : List Int).length : Int) := by simpa using b2
    by_cases c0 : v3 = 0
    · refine ⟨?_, ?_, ?_, ?_, ?_, ?_, Ev.step (fun k => by simp only [spec_l20Item.j0]; rfl) (Ev.bind e1 ?e), ?_, ?_⟩
      case e =>
        simp only [if_neg h1, Option.bind_some]
        refine Ev.bind e2 ?_
        simp only [if_pos a2, if_pos l1]
        refine Ev.bind e3 ?_
        simp only [if_pos c0]
        exact Ev.now _
      all_goals omega
    by_cases c1 : v3 = 1
    · refine ⟨?_, ?_, ?_, ?_, ?_, ?_, Ev.step (fun k => by simp only [spec_l20Item.j0]; rfl) (Ev.bind e1 ?e), ?_, ?_⟩
      case e =>
        simp only [if_neg h1, Option.bind_some]
        refine Ev.bind e2 ?_
        simp only [if_pos a2, if_pos l1]
        refine Ev.bind e3 ?_
        simp only [if_neg c0, if_pos c1]
        exact Ev.now _
      all_goals omega
    by_cases c2 : v3 = 2
    · refine ⟨?_, ?_, ?_, ?_, ?_, ?_, Ev.step (fun k => by simp only [spec_l20Item.j0]; rfl) (Ev.bind e1 ?e), ?_, ?_⟩
      case e =>
        simp only [if_neg h1, Option.bind_some]
        refine Ev.bind e2 ?_
        simp only [if_pos a2, if_pos l1]
        refine Ev.bind e3 ?_
        simp only [if_neg c0, if_neg c1, if_pos c2]
        exact Ev.now _
      all_goals omega
    by_cases c3 : v3 = 3
    · refine ⟨?_, ?_, ?_, ?_, ?_, ?_, Ev.step (fun k => by simp only [spec_l20Item.j0]; rfl) (Ev.bind e1 ?e), ?_, ?_⟩
      case e =>
        simp only [if_neg h1, Option.bind_some]
        refine Ev.bind e2 ?_
        simp only [if_pos a2, if_pos l1]
        refine Ev.bind e3 ?_
        simp only [if_neg c0, if_neg c1, if_neg c2, if_pos c3]
        exact Ev.now _
      all_goals omega
    · refine ⟨?_, ?_, ?_, ?_, ?_, ?_, Ev.step (fun k => by simp only [spec_l20Item.j0]; rfl) (Ev.bind e1 ?e), ?_, ?_⟩
      case e =>
        simp only [if_neg h1, Option.bind_some]
        refine Ev.bind e2 ?_
        simp only [if_pos a2, if_pos l1]
        refine Ev.bind e3 ?_
        simp only [if_neg c0, if_neg c1, if_neg c2, if_neg c3]
        exact Ev.now _
      all_goals omega
theorem item_ev {b : List Int} (hb : Code b) {p : Int} (hp : 0 ≤ p ∧ p ≤ 999999800) {n : Int} (hn : 1 ≤ n) : ∃ x0 x1 x2 x3 x4 q, Ev (fun k => spec_l20Item.f k b p n) (x0, x1, x2, x3, x4, q) ∧ p ≤ q ∧ q ≤ p + 9 := by
  obtain ⟨y0, y1, y2, y3, y4, q1, e1, a1, b1⟩ := rec_ev hb (p := p) (by omega)
  obtain ⟨v2, e2, a2, b2⟩ := pick_ev hb (p := q1) (by omega) (n := 4) (by omega)
  by_cases h0 : v2 = 0
  · obtain ⟨v3, e3, a3, b3⟩ := pick_ev hb (p := q1 + 1) (by omega) (n := 4) (by omega)
    have l1 : v3 < (([1, 10, 60, 1000] : List Int).length : Int) := by simpa using b3
    obtain ⟨x0, x1, x2, x3, x4, q, e4, a4, b4⟩ := itemj_ev hb (p := q1 + 1 + 1) (by omega) hn 2 (rd [1, 10, 60, 1000] v3) 0 0 0
    refine ⟨x0, x1, x2, x3, x4, q, ?_, by omega, by omega⟩
    unfold spec_l20Item.f
    refine Ev.bind e1 (Ev.bind e2 ?_)
    simp only [if_pos h0, Option.bind_some]
    refine Ev.bind e3 ?_
    simp only [if_pos a3, if_pos l1]
    exact e4
  by_cases h1 : v2 = 1
  · obtain ⟨v3, e3, a3, b3⟩ := pick_ev hb (p := q1 + 1) (by omega) (n := 3) (by omega)
    have l1 : v3 < (([1, 2, 900] : List Int).length : Int) := by simpa using b3
    obtain ⟨x0, x1, x2, x3, x4, q, e4, a4, b4⟩ := itemj_ev hb (p := q1 + 1 + 1) (by omega) hn 3 0 0 0 (rd [1, 2, 900] v3)
    refine ⟨x0, x1, x2, x3, x4, q, ?_, by omega, by omega⟩
    unfold spec_l20Item.f
    refine Ev.bind e1 (Ev.bind e2 ?_)
    simp only [if_neg h0, if_pos h1, Option.bind_some]
    refine Ev.bind e3 ?_
    simp only [if_pos a3, if_pos l1]
    exact e4
  · obtain ⟨x0, x1, x2, x3, x4, q, e4, a4, b4⟩ := itemj_ev hb (p := q1 + 1) (by omega) hn y0 y1 y2 y3 y4
    refine ⟨x0, x1, x2, x3, x4, q, ?_, by omega, by omega⟩
    unfold spec_l20Item.f
    refine Ev.bind e1 (Ev.bind e2 ?_)
    simp only [if_neg h0, if_neg h1]
    exact e4
theorem ite_ex {α : Type} {R : α → Prop} {c : Prop} [Decidable c] {f g : Nat → Option α} (h1 : c → ∃ r, Ev f r ∧ R r) (h2 : ¬ c → ∃ r, Ev g r ∧ R r) : ∃ r, Ev (fun k => if c then f k else g k) r ∧ R r := by
  by_cases h : c
  · simp only [if_pos h]
    exact h1 h
  · simp only [if_neg h]
    exact h2 h
theorem bind_ex {α β : Type} {R : β → Prop} {f : Nat → Option α} {a : α} (h : Ev f a) {g : Nat → α → Option β} (hg : ∃ r, Ev (fun k => g k a) r ∧ R r) : ∃ r, Ev (fun k => (f k).bind (g k)) r ∧ R r := by
  obtain ⟨r, hr, h2⟩ := hg
  exact ⟨r, Ev.bind h hr, h2⟩
theorem step_ex {α : Type} {R : α → Prop} {g f : Nat → Option α} (h : ∀ k, g (k + 1) = f k) (hf : ∃ r, Ev f r ∧ R r) : ∃ r, Ev g r ∧ R r := by
  obtain ⟨r, hr, h2⟩ := hf
  exact ⟨r, Ev.step h hr, h2⟩
theorem now_ex {α : Type} {R : α → Prop} (r : α) (h : R r) : ∃ r, Ev (fun _ => some r) r ∧ R r := ⟨r, Ev.now r, h⟩
theorem log_loop {b : List Int} (hb : Code b) (N : Int) (hN : N ≤ 16) (bh : Int) (d : Nat) : ∀ (l : List S47) (t m i p : Int), i + d = N → 0 ≤ i → (l.length : Int) ≤ i → 0 ≤ p → p + d * 20 ≤ 999990000 → ∃ r : List S47 × Int, Ev (fun k => spec_l20Log.l0 k N l t m bh i b p) r ∧ (1 ≤ r.1.length ∧ (r.1.length : Int) ≤ N + 1 ∧ p ≤ r.2 ∧ r.2 ≤ p + d * 20) := by
  induction d with
  | zero =>
    intro l t m i p hi hi0 hl hp0 hp1
    exact ⟨(l ++ [⟨2, 1000, 0, 0, 0⟩], p), Ev_now1 (fun k => by simp only [spec_l20Log.l0]; rw [if_neg (by omega), if_pos (by omega)]), by simp; omega⟩
  | succ d ih =>
    intro l t m i p hi hi0 hl hp0 hp1
    obtain ⟨v1, e1, a1, b1⟩ := pick_ev hb (p := p) (by omega) (n := 6) (by omega)
    obtain ⟨v2, e2, a2, b2⟩ := pick_ev hb (p := p + 1) (by omega) (n := 4) (by omega)
    have hw : wrap64 (i + 1) = i + 1 := wrap_id (by omega) (by omega)
    have again : ∀ (l' : List S47) (t' m' q : Int), (l'.length : Int) ≤ i + 1 → p ≤ q → q ≤ p + 20 → ∃ r : List S47 × Int, Ev (fun k => spec_l20Log.l0 k N l' t' m' bh (i + 1) b q) r ∧ (1 ≤ r.1.length ∧ (r.1.length : Int) ≤ N + 1 ∧ p ≤ r.2 ∧ r.2 ≤ p + (d + 1 : Nat) * 20) := by
      intro l' t' m' q h1 h2 h3
      obtain ⟨r, hr, c1, c2, c3, c4⟩ := ih l' t' m' (i + 1) q (by omega) (by omega) h1 (by omega) (by omega)
      exact ⟨r, hr, c1, c2, by omega, by omega⟩
    refine step_ex (f := fun k => _) (fun k => by simp only [spec_l20Log.l0]; rfl) ?_
    refine ite_ex (fun _ => ?_) (fun h => absurd (show i < N by omega) h)
    refine bind_ex e1 (bind_ex e2 ?_)
    simp only [hw]
    refine ite_ex (fun _ => ?_) (fun _ => ?_)
    · repeat' (refine ite_ex (fun _ => ?_) (fun _ => ?_))
      all_goals first | exact again _ _ _ _ (by first | omega | (simp; omega)) (by omega) (by omega) | (exfalso; omega)
    · obtain ⟨x0, x1, x2, x3, x4, q1, e3, a3, b3⟩ := rec_ev hb (p := p + 1 + 1) (by omega)
      obtain ⟨v4, e4, a4, b4⟩ := pick_ev hb (p := q1) (by omega) (n := 20) (by omega)
      obtain ⟨v5, e5, a5, b5⟩ := pick_ev hb (p := q1 + 1) (by omega) (n := 7) (by omega)
      obtain ⟨v6, e6, a6, b6⟩ := pick_ev hb (p := q1 + 1 + 1) (by omega) (n := 3) (by omega)
      have l5 : v5 < (([0, 0, 1, 2, 4, 8, v4] : List Int).length : Int) := by simpa using b5
      refine bind_ex e3 (bind_ex e4 ?_)
      simp only [Option.bind_some]
      refine bind_ex e5 ?_
      simp only [if_pos a5, if_pos l5]
      refine bind_ex e6 ?_
      repeat' (refine ite_ex (fun _ => ?_) (fun _ => ?_))
      all_goals first | exact again _ _ _ _ (by first | omega | (simp; omega)) (by omega) (by omega) | (exfalso; omega)
theorem log_ev {b : List Int} (hb : Code b) {p : Int} (hp : 0 ≤ p ∧ p ≤ 999980000) {N : Int} (h0 : 0 ≤ N) (hN : N ≤ 16) : ∃ r : List S47 × Int, Ev (fun k => spec_l20Log.f k b p N) r ∧ (1 ≤ r.1.length ∧ (r.1.length : Int) ≤ N + 1 ∧ p ≤ r.2 ∧ r.2 ≤ p + 400) := by
  obtain ⟨v1, e1, a1, b1⟩ := pick_ev hb (p := p) (by omega) (n := 5) (by omega)
  obtain ⟨v2, e2, a2, b2⟩ := pick_ev hb (p := p + 1) (by omega) (n := 6) (by omega)
  have l2 : v2 < (([0, 0, 1, 3, 7, 12] : List Int).length : Int) := by simpa using b2
  obtain ⟨r, hr, c1, c2, c3, c4⟩ := log_loop hb N hN (rd [0, 0, 1, 3, 7, 12] v2) N.toNat [] v1 0 0 (p + 1 + 1) (by omega) (by omega) (by simp) (by omega) (by omega)
  unfold spec_l20Log.f
  refine bind_ex e1 ?_
  simp only [Option.bind_some]
  refine bind_ex e2 ?_
  simp only [if_pos a2, if_pos l2]
  exact ⟨r, hr, c1, c2, by omega, by omega⟩
theorem anylog_loop {b : List Int} (hb : Code b) (d : Nat) : ∀ (l : List S47) (p : Int), l.length + d = 41 → 0 ≤ p → p + d * 4 ≤ 999990000 → ∃ r : List S47 × Int, Ev (fun k => spec_l20AnyLog.l0 k l b p) r ∧ (r.1.length ≤ 41 ∧ p ≤ r.2 ∧ r.2 ≤ p + d * 4) := by
  induction d with
  | zero =>
    intro l p hl hp0 hp1
    exact ⟨(l, p), Ev_now1 (fun k => by simp only [spec_l20AnyLog.l0]; rw [if_neg (by omega)]), by simp only; omega⟩
  | succ d ih =>
    intro l p hl hp0 hp1
    obtain ⟨x0, x1, x2, x3, x4, q1, e3, a3, b3⟩ := rec_ev hb (p := p) (by omega)
    obtain ⟨r, hr, c1, c2, c3⟩ := ih ([⟨x0, x1, x2, x3, x4⟩] ++ l) q1 (by simp; omega) (by omega) (by omega)
    refine step_ex (f := fun k => _) (fun k => by simp only [spec_l20AnyLog.l0]; rfl) ?_
    refine ite_ex (fun _ => ?_) (fun h => absurd (show (l.length : Int) ≤ 40 by omega) h)
    refine bind_ex e3 ?_
    simp only [Option.bind_some]
    refine ite_ex (fun _ => ⟨r, hr, c1, by omega, by omega⟩) (fun h => absurd (show _ < 3518437208883 by first | omega | (simp; omega)) h)
theorem anylog_ev {b : List Int} (hb : Code b) {p : Int} (hp : 0 ≤ p ∧ p ≤ 999970000) {n : Int} (hn : 1 ≤ n) : ∃ r : List S47 × Int, Ev (fun k => spec_l20AnyLog.f k b p n) r ∧ (r.1.length ≤ 41 ∧ p ≤ r.2 ∧ r.2 ≤ p + 700) := by
  obtain ⟨v1, e1, a1, b1⟩ := pick_ev hb (p := p) (by omega) (n := 16) (by omega)
  obtain ⟨⟨l, q⟩, e2, c1, c2, c3, c4⟩ := log_ev hb (p := p + 1) (by omega) (N := v1) (by omega) (by omega)
  simp only at c1 c2 c3 c4
  obtain ⟨v3, e3, a3, b3⟩ := pick_ev hb (p := q) (by omega) (n := n) hn
  obtain ⟨v4, e4, a4, b4⟩ := pick_ev hb (p := q + 1) (by omega) (n := (l.length : Int)) (by omega)
  obtain ⟨v5, e5, a5, b5⟩ := pick_ev hb (p := q + 1 + 1) (by omega) (n := 5) (by omega)
  have hw : wrap64 ((l.length : Int) - 1) = (l.length : Int) - 1 := wrap_id (by omega) (by omega)
  unfold spec_l20AnyLog.f
  refine bind_ex e1 (bind_ex e2 (bind_ex e3 ?_))
  refine ite_ex (fun _ => ?_) (fun _ => ?_)
  · exact ⟨_, Ev.now _, by first | omega | (simp only; omega) | (simp; omega)⟩
  refine bind_ex e4 (bind_ex e5 ?_)
  simp only [hw]
  refine ite_ex (fun _ => ?_) (fun _ => ite_ex (fun _ => ?_) (fun _ => ite_ex (fun _ => ?_) (fun _ => ite_ex (fun _ => ?_) (fun _ => ?_))))
  · obtain ⟨x0, x1, x2, x3, x4, q1, e6, a6, b6⟩ := item_ev hb (p := q + 1 + 1 + 1) (by omega) (n := 2) (by omega)
    refine bind_ex e6 ?_
    refine ite_ex (fun _ => ite_ex (fun _ => ⟨_, Ev.now _, by first | omega | (simp only; omega) | (simp; omega)⟩) (fun h => absurd b4 h)) (fun h => absurd a4 h)
  · refine ite_ex (fun _ => ite_ex (fun _ => ⟨_, Ev.now _, by first | omega | (simp only; omega) | (simp; omega)⟩) (fun h => absurd (show (l.length : Int) - 1 ≤ (l.length : Int) by omega) h)) (fun h => absurd (show 0 ≤ (l.length : Int) - 1 by omega) h)
  · obtain ⟨x0, x1, x2, x3, x4, q1, e6, a6, b6⟩ := item_ev hb (p := q + 1 + 1 + 1) (by omega) (n := 3) (by omega)
    refine bind_ex e6 ?_
    refine ite_ex (fun _ => ⟨_, Ev.now _, by first | omega | (simp only; omega) | (simp; omega)⟩) (fun h => absurd (show l.length < 3518437208883 by omega) h)
  · obtain ⟨v6, e6, a6, b6⟩ := pick_ev hb (p := q + 1 + 1 + 1) (by omega) (n := 60) (by omega)
    simp only [Option.bind_some]
    refine ite_ex (fun _ => ?_) (fun h => absurd a4 h)
    refine ite_ex (fun _ => ?_) (fun h => absurd (show v4 ≤ (l.length : Int) by omega) h)
    refine ite_ex (fun _ => ?_) (fun h => absurd (show _ < 3518437208883 by first | omega | (simp; omega)) h)
    refine bind_ex e6 ?_
    refine ite_ex (fun _ => ?_) (fun h => absurd (show _ < 3518437208883 by first | omega | (simp; omega)) h)
    refine ite_ex (fun _ => ⟨_, Ev.now _, by first | omega | (simp only; omega) | (simp; omega)⟩) (fun h => absurd (show _ < 3518437208883 by first | omega | (simp; omega)) h)
  · obtain ⟨r, hr, d1, d2, d3⟩ := anylog_loop hb (41 - l.length) l (q + 1 + 1 + 1) (by omega) (by omega) (by omega)
    exact ⟨r, hr, d1, by omega, by omega⟩
theorem l1In_is (a b c : Int) : spec_l1In.f a b c = some (decide (b ≤ a ∧ a ≤ c)) := by
  unfold spec_l1In.f
  by_cases h : a ≥ b
  · have h' : b ≤ a := h
    simp [h, h']
  · have h' : ¬ b ≤ a := h
    simp [h']
theorem in_is (a b c : Int) : impl_in.f a b c = some (decide (b ≤ a ∧ a ≤ c)) := l1In_is a b c
theorem itmOk_eq : impl_ItmOk.f = spec_ItmOk.f := rfl
theorem itmOk_tot (a b c d e : Int) : ∃ r, spec_ItmOk.f a b c d e = some r := by
  unfold spec_ItmOk.f
  simp only [l1In_is, Option.bind_some]
  repeat' split
  all_goals exact ⟨_, rfl⟩
/-- An item is ok. -/
def iok (x : S47) : Bool := (spec_ItmOk.f x.f0 x.f1 x.f2 x.f3 x.f4).getD false
theorem iok_is (x : S47) : spec_ItmOk.f x.f0 x.f1 x.f2 x.f3 x.f4 = some (iok x) := by
  obtain ⟨r, h⟩ := itmOk_tot x.f0 x.f1 x.f2 x.f3 x.f4
  unfold iok
  rw [h]
  rfl
/-- One round of LogOk: the greatest mark so far, or out. -/
def stp (s : Int) (x : S47) : Sum Bool Int := if iok x = true ∧ x.f0 ≠ 3 then (if x.f0 = 2 then (if x.f1 ≤ s then .inl false else .inr x.f1) else .inr s) else .inl false
def lastOk (x : S47) : Bool := (x.f0 == 2 && (x.f1 == 1000 && (x.f2 == 0 && (x.f3 == 0 && (x.f4 == 0)))))
theorem run_false (l : List S47) (s : Int) : runL stp (fun _ => false) l s = false := by
  induction l generalizing s with
  | nil => rfl
  | cons x l ih =>
    unfold runL stp
    split
    · rename_i r h
      split at h
      · split at h
        · split at h
          · exact (Sum.inl.inj h).symm
          · cases h
        · cases h
      · exact (Sum.inl.inj h).symm
    · exact ih _
theorem spec_log (l : List S47) (hl : l.length ≤ 1048576) : Ev (fun k => spec_LogOk.l0 k l 0 0) (runL stp (fun _ => true) l 0) := by
  refine Ev_run (fun k s i => spec_LogOk.l0 k l s i) l stp _ (fun _ _ => True) (fun j s hj _ s' hs => ⟨trivial, fun r hr => ?_⟩) (fun j s hj _ r hs => ?_) (fun s _ => Ev_now1 (fun k => by simp only [spec_LogOk.l0]; rw [if_neg (by omega)])) 0 trivial
  · unfold stp at hs
    split at hs
    · rename_i h
      refine Ev_eq (f := fun k => spec_LogOk.j2 k l s (j : Int) (l[j].f0 == 3)) ?_ (fun k => by
        simp only [spec_LogOk.l0]
        rw [if_pos (by omega), if_pos (by omega), rd47_at l j hj, iok_is, h.1]
        simp)
      have h3 : (l[j].f0 == 3) = false := by simpa using h.2
      rw [h3]
      refine Ev_eq hr (fun k => ?_)
      simp only [spec_LogOk.j2]
      rw [if_neg (by simp), if_pos (by omega), if_pos (by omega), rd47_at l j hj, wrap_nat hj (by omega)]
      split at hs
      · rename_i h2
        rw [if_pos h2]
        split at hs
        · cases hs
        · rename_i h4
          rw [if_neg h4, Sum.inr.inj hs]
      · rename_i h2
        rw [if_neg h2, Sum.inr.inj hs]
    · cases hs
  · unfold stp at hs
    split at hs
    · rename_i h
      refine Ev_eq (f := fun k => spec_LogOk.j2 k l s (j : Int) (l[j].f0 == 3)) ?_ (fun k => by
        simp only [spec_LogOk.l0]
        rw [if_pos (by omega), if_pos (by omega), rd47_at l j hj, iok_is, h.1]
        simp)
      have h3 : (l[j].f0 == 3) = false := by simpa using h.2
      rw [h3]
      refine Ev_now1 (fun k => ?_)
      simp only [spec_LogOk.j2]
      rw [if_neg (by simp), if_pos (by omega), if_pos (by omega), rd47_at l j hj]
      split at hs
      · rename_i h2
        rw [if_pos h2]
        split at hs
        · rename_i h4
          rw [if_pos h4, Sum.inl.inj hs]
        · cases hs
      · cases hs
    · rename_i h
      obtain rfl := Sum.inl.inj hs
      refine Ev_eq (f := fun k => spec_LogOk.j2 k l s (j : Int) true) (Ev_now1 (fun k => by simp only [spec_LogOk.j2]; rw [if_pos trivial])) (fun k => ?_)
      simp only [spec_LogOk.l0]
      rw [if_pos (by omega), if_pos (by omega), rd47_at l j hj, iok_is]
      simp only [Option.bind_some]
      by_cases h1 : iok l[j] = true
      · have h3 : l[j].f0 = 3 := Decidable.byContradiction fun h3 => h ⟨h1, h3⟩
        rw [if_pos h1, h3]
        rfl
      · rw [if_neg h1]
theorem impl_log (l : List S47) (hl : l.length ≤ 1048576) (b : Bool) (hb : ∀ k s, impl_LogOk.l0 (k + 1) l s l (l.length : Int) (l.length : Int) = some b) : Ev (fun k => impl_LogOk.l0 k l 0 l (l.length : Int) 0) (runL stp (fun _ => b) l 0) := by
  refine Ev_run (fun k s i => impl_LogOk.l0 k l s l (l.length : Int) i) l stp _ (fun _ _ => True) (fun j s hj _ s' hs => ⟨trivial, fun r hr => ?_⟩) (fun j s hj _ r hs => ?_) (fun s _ => Ev_now1 (fun k => hb k s)) 0 trivial
  · unfold stp at hs
    split at hs
    · rename_i h
      have he : ∀ k (q : Bool), (l[j].f0 = 2 → q = decide (l[j].f1 ≤ s)) → (l[j].f0 ≠ 2 → q = false) → impl_LogOk.l0 (k + 1) l s l (l.length : Int) (j : Int) = impl_LogOk.j1 k l s l (l.length : Int) (j : Int) q l[j].f0 l[j].f1 l[j].f2 l[j].f3 l[j].f4 := fun k q h2 h2' => by
        simp only [impl_LogOk.l0]
        rw [if_pos (by omega), if_pos (by omega), if_pos (by omega), rd47_at l j hj, itmOk_eq, iok_is, h.1]
        simp only [Option.bind_some, if_true]
        rw [if_neg h.2]
        by_cases e : l[j].f0 = 2
        · rw [if_pos e, h2 e]
        · rw [if_neg e, h2' e]
      split at hs
      · rename_i h2
        split at hs
        · cases hs
        · rename_i h4
          refine Ev_eq (f := fun k => _) ?_ (fun k => he k false (fun _ => by simpa using h4) (fun _ => rfl))
          refine Ev_eq hr (fun k => ?_)
          simp only [impl_LogOk.j1]
          rw [if_neg (by simp), if_pos h2, wrap_nat hj (by omega), Sum.inr.inj hs]
      · rename_i h2
        refine Ev_eq (f := fun k => _) ?_ (fun k => he k false (fun e => absurd e h2) (fun _ => rfl))
        refine Ev_eq hr (fun k => ?_)
        simp only [impl_LogOk.j1]
        rw [if_neg (by simp), if_neg h2, wrap_nat hj (by omega), Sum.inr.inj hs]
    · cases hs
  · have hout : Ev (fun k => impl_LogOk.j1 k l s l (l.length : Int) (j : Int) true l[j].f0 l[j].f1 l[j].f2 l[j].f3 l[j].f4) false := Ev_now1 (fun k => by simp only [impl_LogOk.j1]; rw [if_pos trivial])
    have hr : r = false ∧ ∀ k, impl_LogOk.l0 (k + 1) l s l (l.length : Int) (j : Int) = impl_LogOk.j1 k l s l (l.length : Int) (j : Int) true l[j].f0 l[j].f1 l[j].f2 l[j].f3 l[j].f4 := by
      unfold stp at hs
      split at hs
      · rename_i h
        split at hs
        · rename_i h2
          split at hs
          · rename_i h4
            refine ⟨(Sum.inl.inj hs).symm, fun k => ?_⟩
            simp only [impl_LogOk.l0]
            rw [if_pos (by omega), if_pos (by omega), if_pos (by omega), rd47_at l j hj, itmOk_eq, iok_is, h.1]
            simp only [Option.bind_some, if_true]
            rw [if_neg h.2, if_pos h2, decide_eq_true h4]
          · cases hs
        · cases hs
      · rename_i h
        refine ⟨(Sum.inl.inj hs).symm, fun k => ?_⟩
        simp only [impl_LogOk.l0]
        rw [if_pos (by omega), if_pos (by omega), if_pos (by omega), rd47_at l j hj, itmOk_eq, iok_is]
        simp only [Option.bind_some]
        by_cases h1 : iok l[j] = true
        · have h3 : l[j].f0 = 3 := Decidable.byContradiction fun h3 => h ⟨h1, h3⟩
          rw [if_pos h1, if_pos h3]
        · rw [if_neg h1]
    rw [hr.1]
    exact Ev_eq hout hr.2
theorem logok_both (l : List S47) (hl : l.length ≤ 1048576) : ∃ r, Ev (fun k => spec_LogOk.f k l) r ∧ Ev (fun k => impl_LogOk.f k l) r := by
  by_cases h : (1 : Int) ≤ (l.length : Int) ∧ (l.length : Int) ≤ 40
  · have hp : l.length - 1 < l.length := by omega
    have hw : wrap64 ((l.length : Int) - 1) = ((l.length - 1 : Nat) : Int) := by rw [wrap_id (by omega) (by omega)]; omega
    have hrd := rd47_at l (l.length - 1) hp
    refine ⟨runL stp (fun _ => lastOk l[l.length - 1]) l 0, ?_, ?_⟩
    · refine Ev.congr (f := fun k => spec_LogOk.j0 k l (!lastOk l[l.length - 1])) (fun k => by
        unfold spec_LogOk.f lastOk
        rw [l1In_is, decide_eq_true h]
        simp only [Option.bind_some, if_true]
        rw [hw, if_pos (by omega), if_pos (by omega), hrd]
        simp only [Bool.not_and]) ?_
      cases hb : lastOk l[l.length - 1] with
      | false =>
        rw [run_false]
        exact Ev_now1 (fun k => by simp only [spec_LogOk.j0]; rfl)
      | true => exact Ev_eq (spec_log l hl) (fun k => by simp only [spec_LogOk.j0]; rfl)
    · refine Ev.congr (f := fun k => impl_LogOk.l0 k l 0 l (l.length : Int) 0) (fun k => by
        unfold impl_LogOk.f
        rw [in_is, decide_eq_true h]
        rfl) (impl_log l hl _ (fun k s => ?_))
      simp only [impl_LogOk.l0]
      rw [if_neg (by omega), hw, if_pos (by omega), if_pos (by omega), hrd]
      rfl
  · refine ⟨false, ?_, Ev_const (fun k => by unfold impl_LogOk.f; rw [in_is, decide_eq_false h]; rfl)⟩
    refine Ev.congr (f := fun k => spec_LogOk.j0 k l true) (fun k => by unfold spec_LogOk.f; rw [l1In_is, decide_eq_false h]; rfl) (Ev_now1 (fun k => by simp only [spec_LogOk.j0]; rfl))
/-- What LogOk tells. -/
def lok (l : List S47) : Bool := decide ((1 : Int) ≤ (l.length : Int) ∧ (l.length : Int) ≤ 40) && runL stp (fun _ => lastOk (rd_T47 l ((l.length - 1 : Nat) : Int))) l 0
theorem logok_is (l : List S47) (hl : l.length ≤ 1048576) : Ev (fun k => spec_LogOk.f k l) (lok l) ∧ Ev (fun k => impl_LogOk.f k l) (lok l) := by
  unfold lok
  by_cases h : (1 : Int) ≤ (l.length : Int) ∧ (l.length : Int) ≤ 40
  · have hp : l.length - 1 < l.length := by omega
    have hw : wrap64 ((l.length : Int) - 1) = ((l.length - 1 : Nat) : Int) := by rw [wrap_id (by omega) (by omega)]; omega
    have hrd := rd47_at l (l.length - 1) hp
    rw [decide_eq_true h, Bool.true_and, hrd]
    refine ⟨?_, ?_⟩
    · refine Ev.congr (f := fun k => spec_LogOk.j0 k l (!lastOk l[l.length - 1])) (fun k => by
        unfold spec_LogOk.f lastOk
        rw [l1In_is, decide_eq_true h]
        simp only [Option.bind_some, if_true]
        rw [hw, if_pos (by omega), if_pos (by omega), hrd]
        simp only [Bool.not_and]) ?_
      cases hb : lastOk l[l.length - 1] with
      | false =>
        rw [run_false]
        exact Ev_now1 (fun k => by simp only [spec_LogOk.j0]; rfl)
      | true => exact Ev_eq (spec_log l hl) (fun k => by simp only [spec_LogOk.j0]; rfl)
    · refine Ev.congr (f := fun k => impl_LogOk.l0 k l 0 l (l.length : Int) 0) (fun k => by
        unfold impl_LogOk.f
        rw [in_is, decide_eq_true h]
        rfl) (impl_log l hl _ (fun k s => ?_))
      simp only [impl_LogOk.l0]
      rw [if_neg (by omega), hw, if_pos (by omega), if_pos (by omega), hrd]
      rfl
  · rw [decide_eq_false h, Bool.false_and]
    refine ⟨?_, Ev_const (fun k => by unfold impl_LogOk.f; rw [in_is, decide_eq_false h]; rfl)⟩
    refine Ev.congr (f := fun k => spec_LogOk.j0 k l true) (fun k => by unfold spec_LogOk.f; rw [l1In_is, decide_eq_false h]; rfl) (Ev_now1 (fun k => by simp only [spec_LogOk.j0]; rfl))
/-- One round of the law's own reckoning. -/
def stp2 (s : Bool × Int) (x : S47) : Bool × Int := (s.1 && (iok x && (!(x.f0 == 3) && (!(x.f0 == 2) || decide (x.f1 > s.2)))), if x.f0 = 2 ∧ x.f1 > s.2 then x.f1 else s.2)
theorem stp2_false (l : List S47) (m : Int) : (l.foldl stp2 (false, m)).1 = false := by
  induction l generalizing m with
  | nil => rfl
  | cons x l ih =>
    rw [List.foldl_cons]
    have : stp2 (false, m) x = (false, (stp2 (false, m) x).2) := by unfold stp2; simp
    rw [this]
    exact ih _
theorem run_is (b : Bool) (l : List S47) (s : Int) : runL stp (fun _ => b) l s = ((l.foldl stp2 (true, s)).1 && b) := by
  induction l generalizing s with
  | nil => simp [runL]
  | cons x l ih =>
    rw [List.foldl_cons]
    unfold runL
    by_cases h : iok x = true ∧ x.f0 ≠ 3
    · by_cases h2 : x.f0 = 2
      · by_cases h3 : x.f1 ≤ s
        · have e1 : stp s x = .inl false := by unfold stp; rw [if_pos h, if_pos h2, if_pos h3]
          have e2 : stp2 (true, s) x = (false, (stp2 (true, s) x).2) := by unfold stp2; simp [h2]; omega
          rw [e1, e2, stp2_false, Bool.false_and]
        · have e1 : stp s x = .inr x.f1 := by unfold stp; rw [if_pos h, if_pos h2, if_neg h3]
          have e2 : stp2 (true, s) x = (true, x.f1) := by unfold stp2; simp [h.1, h2]; omega
          rw [e1, e2]
          exact ih _
      · have e1 : stp s x = .inr s := by unfold stp; rw [if_pos h, if_neg h2]
        have e2 : stp2 (true, s) x = (true, s) := by unfold stp2; simp [h.1, h2]; exact h.2
        rw [e1, e2]
        exact ih _
    · have e1 : stp s x = .inl false := by unfold stp; rw [if_neg h]
      have e2 : stp2 (true, s) x = (false, (stp2 (true, s) x).2) := by
        unfold stp2
        by_cases h1 : iok x = true
        · have h3 : x.f0 = 3 := Decidable.byContradiction fun h3 => h ⟨h1, h3⟩
          simp [h3]
        · simp [h1]
      rw [e1, e2, stp2_false, Bool.false_and]
theorem all_iok (l : List S47) (c : Bool) (s : Int) (h : (l.foldl stp2 (c, s)).1 = true) : c = true ∧ ∀ x ∈ l, iok x = true := by
  induction l generalizing c s with
  | nil => exact ⟨h, fun x hx => by cases hx⟩
  | cons x l ih =>
    rw [List.foldl_cons] at h
    obtain ⟨h1, h2⟩ := ih (stp2 (c, s) x).1 (stp2 (c, s) x).2 h
    unfold stp2 at h1
    simp only [Bool.and_eq_true] at h1
    exact ⟨h1.1, fun y hy => by
      rcases List.mem_cons.mp hy with rfl | hy
      · exact h1.2.1
      · exact h2 y hy⟩
theorem mark_zero (x : S47) (h : iok x = true) (h2 : x.f0 = 2) : x.f2 = 0 ∧ x.f3 = 0 ∧ x.f4 = 0 := by
  have hi := iok_is x
  rw [h] at hi
  unfold spec_ItmOk.f at hi
  simp only [l1In_is, Option.bind_some, h2] at hi
  rw [if_neg (by decide), if_pos trivial] at hi
  by_cases a : x.f2 = 0 <;> by_cases b : x.f3 = 0 <;> by_cases c : x.f4 = 0 <;> simp [a, b, c] at hi ⊢
  have h4 : (x.f4 == 0) = false := beq_eq_false_iff_ne.mpr c
  rw [h4] at hi
  split at hi
  · simp at hi
  · split at hi <;> simp at hi
theorem FnLogOk : laws_FnLogOk.Pure := by
  intro l _ _ hx
  apply Ev.rounds
  unfold laws_FnLogOk.f
  by_cases hl : (l.length : Int) > 1048576
  · simp only [if_pos hl]
    exact Ev.now _
  · simp only [if_neg hl]
    obtain ⟨b, ho, hb⟩ := open_ev (l := l) (by omega) hx
    obtain ⟨⟨g, q⟩, e1, c1, c2, c3⟩ := anylog_ev hb (p := 0) (by omega) (n := 2) (by omega)
    simp only at c1 c2 c3
    have hd : Ev (fun k => spec_DrawLogOk.f k l) g := by
      unfold spec_DrawLogOk.f
      rw [ho]
      simp only [Option.bind_some]
      exact Ev.bind e1 (Ev.now _)
    have hg : g.length ≤ 1048576 := by omega
    refine Ev.bind hd ?_
    have hj2 : Ev (fun k => laws_FnLogOk.j2 k g (lok g)) true := by
      refine Ev.step (f := fun k => _) (fun k => by simp only [laws_FnLogOk.j2]; rfl) ?_
      refine Ev.bind (logok_is g hg).2 ?_
      simp only [beq_self_eq_true, if_true]
      refine Ev.bind (logok_is g hg).2 (Ev.bind (logok_is g hg).1 ?_)
      simp only [beq_self_eq_true, if_true]
      have h1 := (logok_is [(⟨2, 1000, 0, 0, 0⟩ : S47)] (by simp)).2
      have h2 : lok [(⟨2, 1000, 0, 0, 0⟩ : S47)] = true := by decide +kernel
      rw [h2] at h1
      exact Ev.bind h1 (Ev.now _)
    have hj0 : Ev (fun k => laws_FnLogOk.j0 k g (decide ((1 : Int) ≤ (g.length : Int) ∧ (g.length : Int) ≤ 40))) true := by
      refine Ev.step (f := fun k => _) (fun k => by simp only [laws_FnLogOk.j0]; rfl) ?_
      generalize hc : decide ((1 : Int) ≤ (g.length : Int) ∧ (g.length : Int) ≤ 40) = c
      have hs := loop (fun k (s : Bool × Int) i => laws_FnLogOk.l0 k g s.1 s.2 i) g.length (fun j s => s = (g.take j).foldl stp2 (c, 0)) (fun z => z = true)
        (fun j s hj hi => by
          refine .inl ⟨stp2 s g[j], by rw [List.take_succ_eq_append_getElem hj, List.foldl_append, ← hi]; rfl, fun z hz => Ev_eq hz (fun k => ?_)⟩
          obtain ⟨a, m⟩ := s
          simp only [laws_FnLogOk.l0]
          rw [if_pos (by omega), if_pos (by omega), rd47_at g j hj, wrap_nat hj (by omega), itmOk_eq, iok_is]
          generalize g[j] = x
          unfold stp2
          simp only [Option.bind_some]
          cases a
          · by_cases h2 : x.f0 = 2
            · by_cases h3 : x.f1 > m <;> simp [h2, h3]
            · simp [h2]
          · cases iok x
            · by_cases h2 : x.f0 = 2
              · by_cases h3 : x.f1 > m <;> simp [h2, h3]
              · simp [h2]
            · by_cases h2 : x.f0 = 2
              · by_cases h3 : x.f1 > m <;> simp [h2, h3]
              · have e2 : (x.f0 == 2) = false := beq_eq_false_iff_ne.mpr h2
                by_cases h4 : x.f0 = 3
                · simp [h4]
                · have e3 : (x.f0 == 3) = false := beq_eq_false_iff_ne.mpr h4
                  simp [h2, h4, e2, e3])
        (fun s hi => by
          rw [List.take_length] at hi
          obtain ⟨a, m⟩ := s
          refine ⟨true, ?_, rfl⟩
          have ha : a = (g.foldl stp2 (c, 0)).1 := by rw [← hi]
          cases a with
          | false =>
            have hf : lok g = false := by
              unfold lok
              rw [hc, run_is]
              cases c with
              | false => rfl
              | true => rw [← ha]; simp
            rw [hf] at hj2
            exact Ev_eq hj2 (fun k => by simp only [laws_FnLogOk.l0]; rw [if_neg (by omega), if_neg (by simp)])
          | true =>
            obtain ⟨h1, h2⟩ := all_iok g c 0 ha.symm
            subst h1
            have hr := of_decide_eq_true hc
            have hp : g.length - 1 < g.length := by omega
            have hw : wrap64 ((g.length : Int) - 1) = ((g.length - 1 : Nat) : Int) := by rw [wrap_id (by omega) (by omega)]; omega
            have hk := h2 g[g.length - 1] (List.getElem_mem hp)
            have hf : lok g = ((g[g.length - 1].f0 == 2) && (g[g.length - 1].f1 == 1000)) := by
              unfold lok
              rw [hc, run_is, ← ha, rd47_at g _ hp, Bool.true_and, Bool.true_and]
              unfold lastOk
              by_cases h3 : g[g.length - 1].f0 = 2
              · obtain ⟨m1, m2, m3⟩ := mark_zero _ hk h3
                rw [m1, m2, m3]
                simp
              · rw [beq_eq_false_iff_ne.mpr h3]
                rfl
            rw [hf] at hj2
            refine Ev_eq hj2 (fun k => ?_)
            simp only [laws_FnLogOk.l0]
            rw [if_neg (by omega), if_pos trivial, hw, if_pos (by omega), if_pos (by omega), rd47_at g _ hp]
            by_cases h3 : g[g.length - 1].f0 = 2
            · rw [if_pos h3, h3]
              rfl
            · rw [if_neg h3, beq_eq_false_iff_ne.mpr h3]
              rfl) (c, 0) (by simp)
      obtain ⟨z, hz, rfl⟩ := hs
      exact hz
    by_cases h0 : (g.length : Int) > 0
    · simp only [if_pos h0]
      have : decide ((1 : Int) ≤ (g.length : Int) ∧ (g.length : Int) ≤ 40) = decide ((g.length : Int) ≤ 40) := decide_eq_decide.mpr (by omega)
      rw [← this]
      exact hj0
    · simp only [if_neg h0]
      have : decide ((1 : Int) ≤ (g.length : Int) ∧ (g.length : Int) ≤ 40) = false := decide_eq_false (by omega)
      rw [← this]
      exact hj0

end Go.Proofs.Ytofhaglklhmilaa.Pure
