/- The law FnLogRecs over numbers and lists: the Lean function of it that was printed answers true. No condition but that each number is one of its kind. -/
import Derived.Test.YtkmckalckafloaaQFnLogRecsx6
import Derived.Test.YtkmckalckafloaaAid
set_option linter.unusedVariables false
set_option linter.unusedSimpArgs false
namespace Go.Proofs.Ytkmckalckafloaa.Pure
open Go.RowKit Go.Proofs.Ytkmckalckafloaa.PFnLogRecs Go.Proofs.YtkmckalckafloaaW.PrintWords Go.Proofs.YtkmckalckafloaaW.PrintLast Go.Proofs.Ytkmckalckafloaa.Aid

theorem rd70_at (l : List S70) (j : Nat) (h : j < l.length) : rd_T70 l (j : Int) = l[j] := by simp [rd_T70, List.getD_eq_getElem?_getD, h]
/-- A code that may be read: bytes, not too many. -/
def Code (b : List Int) : Prop := b.length ≤ 2000 ∧ ∀ x ∈ b, 0 ≤ x ∧ x ≤ 255
theorem code_rd {b : List Int} (hb : Code b) (i : Int) : 0 ≤ rd b i ∧ rd b i ≤ 255 := by
  unfold rd
  rw [List.getD_eq_getElem?_getD]
  rcases Nat.lt_or_ge i.toNat b.length with h | h
  · rw [List.getElem?_eq_getElem h]
    exact hb.2 _ (List.getElem_mem h)
  · rw [List.getElem?_eq_none h]
    exact ⟨Int.le_refl _, by decide⟩
theorem xor_pos (x y : Int) (hx : 0 ≤ x ∧ x < 4611686018427387904) (hy : 0 ≤ y ∧ y < 4611686018427387904) : 0 ≤ Go.bits .xor .i64 x y := by
  obtain ⟨a, rfl⟩ := Int.eq_ofNat_of_zero_le hx.1
  obtain ⟨b, rfl⟩ := Int.eq_ofNat_of_zero_le hy.1
  have ha : a < 2 ^ 62 := by omega
  have hb : b < 2 ^ 62 := by omega
  have ha' : a % 2 ^ IntKind.i64.bits = a := Nat.mod_eq_of_lt (Nat.lt_of_lt_of_le ha (by decide))
  have hb' : b % 2 ^ IntKind.i64.bits = b := Nat.mod_eq_of_lt (Nat.lt_of_lt_of_le hb (by decide))
  have hxr : a ^^^ b < 2 ^ 62 := Nat.xor_lt_two_pow ha hb
  simp only [Go.bits, BitVec.ofInt_natCast, BitVec.toNat_xor, BitVec.toNat_ofNat, ha', hb']
  rw [IntKind.wrap_i64]
  have : ((a ^^^ b : Nat) : Int) < 2 ^ 62 := by exact_mod_cast hxr
  omega
theorem tmod_in (x n : Int) (hx : 0 ≤ x) (hn : 1 ≤ n) : 0 ≤ Int.tmod x n ∧ Int.tmod x n < n :=
  ⟨Int.tmod_nonneg _ hx, Int.tmod_lt_of_pos _ (by omega)⟩
theorem pick_ev {b : List Int} (hb : Code b) {p : Int} (hp : 0 ≤ p ∧ p ≤ 1000000000) {n : Int} (hn : 1 ≤ n) : ∃ v, Ev (fun k => spec_l20Rd_pick.f k b p n) (v, p + 1) ∧ 0 ≤ v ∧ v < n := by
  have hl := hb.1
  have hw : wrap64 (p + 1) = p + 1 := wrap_id (by omega) (by omega)
  have hw2 : wrap64 (p + 1 - 1) = p := by rw [wrap_id (by omega) (by omega)]; omega
  have e0 : ∀ k, spec_l20Rd_pick.f k b p n = spec_l20Rd_pick.j0 k n ((b.length : Int) == 0) b (p + 1) := fun k => by
    unfold spec_l20Rd_pick.f
    rw [if_neg (by omega), hw]
  by_cases hz : b.length = 0
  · refine ⟨0, Ev.congr e0 (Ev_now1 (fun k => ?_)), by omega, by omega⟩
    simp only [spec_l20Rd_pick.j0]
    rw [if_pos (by simp [hz])]
  · have hz' : ((b.length : Int) == 0) = false := by simpa using hz
    have hlp : (1 : Int) ≤ (b.length : Int) := by omega
    rw [hz'] at e0
    by_cases h1 : p < (b.length : Int)
    · have hr := code_rd hb p
      have hwr : wrap64 (rd b p) = rd b p := wrap_id (by omega) (by omega)
      obtain ⟨t0, t1⟩ := tmod_in (rd b p) n hr.1 hn
      refine ⟨Int.tmod (rd b p) n, Ev.congr e0 (Ev_now1 (fun k => ?_)), t0, t1⟩
      simp only [spec_l20Rd_pick.j0]
      rw [if_neg (by simp), hw2, if_pos h1, if_pos hp.1, if_neg (by omega), hwr]
    · obtain ⟨t0, t1⟩ := tmod_in p (b.length : Int) hp.1 hlp
      have w7 : wrap64 (p * 7) = p * 7 := wrap_id (by omega) (by omega)
      have w73 : wrap64 (p * 7 + 3) = p * 7 + 3 := wrap_id (by omega) (by omega)
      obtain ⟨s0, s1⟩ := tmod_in (p * 7 + 3) (b.length : Int) (by omega) hlp
      have ra := code_rd hb (Int.tmod p (b.length : Int))
      have rb := code_rd hb (Int.tmod (p * 7 + 3) (b.length : Int))
      have hd0 : 0 ≤ Int.tdiv p (b.length : Int) := Int.tdiv_nonneg hp.1 (by omega)
      have hd1 : Int.tdiv p (b.length : Int) ≤ p := by
        rw [Int.tdiv_eq_ediv_of_nonneg hp.1]
        exact Int.ediv_le_self _ hp.1
      generalize hA : rd b (Int.tmod p (b.length : Int)) = A at ra
      generalize hB : rd b (Int.tmod (p * 7 + 3) (b.length : Int)) = B at rb
      generalize hD : Int.tdiv p (b.length : Int) = D at hd0 hd1
      have v1 : wrap64 A = A := wrap_id (by omega) (by omega)
      have v2 : wrap64 (A * 131) = A * 131 := wrap_id (by omega) (by omega)
      have v3 : wrap64 B = B := wrap_id (by omega) (by omega)
      have v4 : wrap64 (B * 1117) = B * 1117 := wrap_id (by omega) (by omega)
      have v5 : wrap64 (A * 131 + B * 1117) = A * 131 + B * 1117 := wrap_id (by omega) (by omega)
      have v6 : wrap64 (p * 29) = p * 29 := wrap_id (by omega) (by omega)
      have v7 : wrap64 (A * 131 + B * 1117 + p * 29) = A * 131 + B * 1117 + p * 29 := wrap_id (by omega) (by omega)
      have v8 : wrap64 D = D := wrap_id (by omega) (by omega)
      have v9 : wrap64 (D * 53) = D * 53 := wrap_id (by omega) (by omega)
      have v10 : wrap64 (A * 131 + B * 1117 + p * 29 + D * 53) = A * 131 + B * 1117 + p * 29 + D * 53 := wrap_id (by omega) (by omega)
      have hx0 : 0 ≤ A * 131 + B * 1117 + p * 29 + D * 53 ∧ A * 131 + B * 1117 + p * 29 + D * 53 < 4611686018427387904 := by omega
      generalize hX : A * 131 + B * 1117 + p * 29 + D * 53 = X at v10 hx0
      have hq0 : 0 ≤ Int.tdiv X 64 := Int.tdiv_nonneg hx0.1 (by omega)
      have hq1 : Int.tdiv X 64 ≤ X := by
        rw [Int.tdiv_eq_ediv_of_nonneg hx0.1]
        omega
      have v11 : wrap64 (Int.tdiv X 64) = Int.tdiv X 64 := wrap_id (by omega) (by omega)
      have hxor := xor_pos X (Int.tdiv X 64) hx0 ⟨hq0, by omega⟩
      obtain ⟨u0, u1⟩ := tmod_in _ n hxor hn
      refine ⟨Int.tmod (Go.bits .xor .i64 X (Int.tdiv X 64)) n, Ev.congr e0 (Ev_now1 (fun k => ?_)), u0, u1⟩
      simp only [spec_l20Rd_pick.j0]
      rw [if_neg (by simp), hw2, if_neg h1, if_neg (by omega), if_pos t0, if_pos t1]
      simp only [w7, w73]
      rw [if_pos s0, if_pos s1, if_neg (by omega)]
      simp only [hA, hB, hD, v1, v2, v3, v4, v5, v6, v7, v8, v9, v10, hX, v11]
theorem open_ev {l : List Int} (hl : l.length ≤ 1048576) (hb : ∀ x ∈ l, (Lit.int .u8 x).wf = true) : ∃ b, spec_l20Open.f l = some (b, 0) ∧ Code b := by
  have hx : ∀ x ∈ l, 0 ≤ x ∧ x ≤ 255 := fun x h => by
    have := hb x h
    simp only [Lit.wf, Bool.and_eq_true, decide_eq_true_eq] at this
    have a : IntKind.u8.min = 0 := by decide
    have b : IntKind.u8.max = 255 := by decide
    omega
  unfold spec_l20Open.f
  by_cases h : (l.length : Int) > 2000
  · rw [if_pos h, if_pos (by omega)]
    exact ⟨_, rfl, by simp; omega, fun x hm => hx x (List.mem_of_mem_take hm)⟩
  · rw [if_neg h]
    exact ⟨_, rfl, by omega, hx⟩
theorem rdlit (xs : List Int) (i : Int) (h0 : 0 ≤ i) (h1 : i < (xs.length : Int)) : rd xs i ∈ xs := by
  unfold rd
  have h : i.toNat < xs.length := by omega
  rw [List.getD_eq_getElem?_getD, List.getElem?_eq_getElem h]
  exact List.getElem_mem h
theorem rec_ev {b : List Int} (hb : Code b) {p : Int} (hp : 0 ≤ p ∧ p ≤ 999999900) : ∃ x0 x1 x2 x3 x4 q, Ev (fun k => spec_l20Rec.f k b p) (x0, x1, x2, x3, x4, q) ∧ p ≤ q ∧ q ≤ p + 4 := by
  obtain ⟨v1, e1, a1, b1⟩ := pick_ev hb (p := p) (by omega) (n := 61) (by omega)
  obtain ⟨v2, e2, a2, b2⟩ := pick_ev hb (p := p + 1) (by omega) (n := 6) (by omega)
  obtain ⟨v3, e3, a3, b3⟩ := pick_ev hb (p := p + 1 + 1) (by omega) (n := 4) (by omega)
  obtain ⟨v4, e4, a4, b4⟩ := pick_ev hb (p := p + 1 + 1 + 1) (by omega) (n := 19) (by omega)
  have l1 : v2 < (([0, 1, 5, 20, 60, v1] : List Int).length : Int) := by simpa using b2
  refine ⟨?_, ?_, ?_, ?_, ?_, ?_, ?e, ?_, ?_⟩
  case e =>
    unfold spec_l20Rec.f
    refine Ev.bind e1 ?_
    simp only [Option.bind_some]
    refine Ev.bind e2 ?_
    simp only [if_pos a2, if_pos l1]
    refine Ev.bind e3 (Ev.bind e4 ?_)
    exact Ev.now _
  all_goals omega
theorem itemj_ev {b : List Int} (hb : Code b) {p : Int} (hp : 0 ≤ p ∧ p ≤ 999999900) {n : Int} (hn : 1 ≤ n) (y0 y1 y2 y3 y4 : Int) : ∃ x0 x1 x2 x3 x4 q, Ev (fun k => spec_l20Item.j0 k n b p y0 y1 y2 y3 y4) (x0, x1, x2, x3, x4, q) ∧ p ≤ q ∧ q ≤ p + 3 := by
  obtain ⟨v1, e1, a1, b1⟩ := pick_ev hb (p := p) (by omega) (n := n) hn
  by_cases h1 : v1 > 0
  · refine ⟨?_, ?_, ?_, ?_, ?_, ?_, Ev.step (fun k => by simp only [spec_l20Item.j0]; rfl) (Ev.bind e1 ?e), ?_, ?_⟩
    case e =>
      simp only [if_pos h1]
      exact Ev.now _
    all_goals omega
  · obtain ⟨v2, e2, a2, b2⟩ := pick_ev hb (p := p + 1) (by omega) (n := 7) (by omega)
    obtain ⟨v3, e3, a3, b3⟩ := pick_ev hb (p := p + 1 + 1) (by omega) (n := 5) (by omega)
    have l1 : v2 < (([(-1), 0, 61, 4, 10, 1000, 901] : List Int).length : Int) := by simpa using b2
    by_cases c0 : v3 = 0
    · refine ⟨?_, ?_, ?_, ?_, ?_, ?_, Ev.step (fun k => by simp only [spec_l20Item.j0]; rfl) (Ev.bind e1 ?e), ?_, ?_⟩
      case e =>
        simp only [if_neg h1, Option.bind_some]
        refine Ev.bind e2 ?_
        simp only [if_pos a2, if_pos l1]
        refine Ev.bind e3 ?_
        simp only [if_pos c0]
        exact Ev.now _
      all_goals omega
    by_cases c1 : v3 = 1
    · refine ⟨?_, ?_, ?_, ?_, ?_, ?_, Ev.step (fun k => by simp only [spec_l20Item.j0]; rfl) (Ev.bind e1 ?e), ?_, ?_⟩
      case e =>
        simp only [if_neg h1, Option.bind_some]
        refine Ev.bind e2 ?_
        simp only [if_pos a2, if_pos l1]
        refine Ev.bind e3 ?_
        simp only [if_neg c0, if_pos c1]
        exact Ev.now _
      all_goals omega
    by_cases c2 : v3 = 2
    · refine ⟨?_, ?_, ?_, ?_, ?_, ?_, Ev.step (fun k => by simp only [spec_l20Item.j0]; rfl) (Ev.bind e1 ?e), ?_, ?_⟩
      case e =>
        simp only [if_neg h1, Option.bind_some]
        refine Ev.bind e2 ?_
        simp only [if_pos a2, if_pos l1]
        refine Ev.bind e3 ?_
        simp only [if_neg c0, if_neg c1, if_pos c2]
        exact Ev.now _
      all_goals omega
    by_cases c3 : v3 = 3
    · refine ⟨?_, ?_, ?_, ?_, ?_, ?_, Ev.step (fun k => by simp only [spec_l20Item.j0]; rfl) (Ev.bind e1 ?e), ?_, ?_⟩
      case e =>
        simp only [if_neg h1, Option.bind_some]
        refine Ev.bind e2 ?_
        simp only [if_pos a2, if_pos l1]
        refine Ev.bind e3 ?_
        simp only [if_neg c0, if_neg c1, if_neg c2, if_pos c3]
        exact Ev.now _
      all_goals omega
    · refine ⟨?_, ?_, ?_, ?_, ?_, ?_, Ev.step (fun k => by simp only [spec_l20Item.j0]; rfl) (Ev.bind e1 ?e), ?_, ?_⟩
      case e =>
        simp only [if_neg h1, Option.bind_some]
        refine Ev.bind e2 ?_
        simp only [if_pos a2, if_pos l1]
        refine Ev.bind e3 ?_
        simp only [if_neg c0, if_neg c1, if_neg c2, if_neg c3]
        exact Ev.now _
      all_goals omega
theorem item_ev {b : List Int} (hb : Code b) {p : Int} (hp : 0 ≤ p ∧ p ≤ 999999800) {n : Int} (hn : 1 ≤ n) : ∃ x0 x1 x2 x3 x4 q, Ev (fun k => spec_l20Item.f k b p n) (x0, x1, x2, x3, x4, q) ∧ p ≤ q ∧ q ≤ p + 9 := by
  obtain ⟨y0, y1, y2, y3, y4, q1, e1, a1, b1⟩ := rec_ev hb (p := p) (by omega)
  obtain ⟨v2, e2, a2, b2⟩ := pick_ev hb (p := q1) (by omega) (n := 4) (by omega)
  by_cases h0 : v2 = 0
  · obtain ⟨v3, e3, a3, b3⟩ := pick_ev hb (p := q1 + 1) (by omega) (n := 4) (by omega)
    have l1 : v3 < (([1, 10, 60, 1000] : List Int).length : Int) := by simpa using b3
    obtain ⟨x0, x1, x2, x3, x4, q, e4, a4, b4⟩ := itemj_ev hb (p := q1 + 1 + 1) (by omega) hn 2 (rd [1, 10, 60, 1000] v3) 0 0 0
    refine ⟨x0, x1, x2, x3, x4, q, ?_, by omega, by omega⟩
    unfold spec_l20Item.f
    refine Ev.bind e1 (Ev.bind e2 ?_)
    simp only [if_pos h0, Option.bind_some]
    refine Ev.bind e3 ?_
    simp only [if_pos a3, if_pos l1]
    exact e4
  by_cases h1 : v2 = 1
  · obtain ⟨v3, e3, a3, b3⟩ := pick_ev hb (p := q1 + 1) (by omega) (n := 3) (by omega)
    have l1 : v3 < (([1, 2, 900] : List Int).length : Int) := by simpa using b3
    obtain ⟨x0, x1, x2, x3, x4, q, e4, a4, b4⟩ := itemj_ev hb (p := q1 + 1 + 1) (by omega) hn 3 0 0 0 (rd [1, 2, 900] v3)
    refine ⟨x0, x1, x2, x3, x4, q, ?_, by omega, by omega⟩
    unfold spec_l20Item.f
    refine Ev.bind e1 (Ev.bind e2 ?_)
    simp only [if_neg h0, if_pos h1, Option.bind_some]
    refine Ev.bind e3 ?_
    simp only [if_pos a3, if_pos l1]
    exact e4
  · obtain ⟨x0, x1, x2, x3, x4, q, e4, a4, b4⟩ := itemj_ev hb (p := q1 + 1) (by omega) hn y0 y1 y2 y3 y4
    refine ⟨x0, x1, x2, x3, x4, q, ?_, by omega, by omega⟩
    unfold spec_l20Item.f
    refine Ev.bind e1 (Ev.bind e2 ?_)
    simp only [if_neg h0, if_neg h1]
    exact e4
theorem ite_ex {α : Type} {R : α → Prop} {c : Prop} [Decidable c] {f g : Nat → Option α} (h1 : c → ∃ r, Ev f r ∧ R r) (h2 : ¬ c → ∃ r, Ev g r ∧ R r) : ∃ r, Ev (fun k => if c then f k else g k) r ∧ R r := by
  by_cases h : c
  · simp only [if_pos h]
    exact h1 h
  · simp only [if_neg h]
    exact h2 h
theorem bind_ex {α β : Type} {R : β → Prop} {f : Nat → Option α} {a : α} (h : Ev f a) {g : Nat → α → Option β} (hg : ∃ r, Ev (fun k => g k a) r ∧ R r) : ∃ r, Ev (fun k => (f k).bind (g k)) r ∧ R r := by
  obtain ⟨r, hr, h2⟩ := hg
  exact ⟨r, Ev.bind h hr, h2⟩
theorem step_ex {α : Type} {R : α → Prop} {g f : Nat → Option α} (h : ∀ k, g (k + 1) = f k) (hf : ∃ r, Ev f r ∧ R r) : ∃ r, Ev g r ∧ R r := by
  obtain ⟨r, hr, h2⟩ := hf
  exact ⟨r, Ev.step h hr, h2⟩
theorem now_ex {α : Type} {R : α → Prop} (r : α) (h : R r) : ∃ r, Ev (fun _ => some r) r ∧ R r := ⟨r, Ev.now r, h⟩
theorem log_loop {b : List Int} (hb : Code b) (N : Int) (hN : N ≤ 16) (bh : Int) (d : Nat) : ∀ (l : List S70) (t m i p : Int), i + d = N → 0 ≤ i → (l.length : Int) ≤ i → 0 ≤ p → p + d * 20 ≤ 999990000 → ∃ r : List S70 × Int, Ev (fun k => spec_l20Log.l0 k N l t m bh i b p) r ∧ (1 ≤ r.1.length ∧ (r.1.length : Int) ≤ N + 1 ∧ p ≤ r.2 ∧ r.2 ≤ p + d * 20) := by
  induction d with
  | zero =>
    intro l t m i p hi hi0 hl hp0 hp1
    exact ⟨(l ++ [⟨2, 1000, 0, 0, 0⟩], p), Ev_now1 (fun k => by simp only [spec_l20Log.l0]; rw [if_neg (by omega), if_pos (by omega)]), by simp; omega⟩
  | succ d ih =>
    intro l t m i p hi hi0 hl hp0 hp1
    obtain ⟨v1, e1, a1, b1⟩ := pick_ev hb (p := p) (by omega) (n := 6) (by omega)
    obtain ⟨v2, e2, a2, b2⟩ := pick_ev hb (p := p + 1) (by omega) (n := 4) (by omega)
    have hw : wrap64 (i + 1) = i + 1 := wrap_id (by omega) (by omega)
    have again : ∀ (l' : List S70) (t' m' q : Int), (l'.length : Int) ≤ i + 1 → p ≤ q → q ≤ p + 20 → ∃ r : List S70 × Int, Ev (fun k => spec_l20Log.l0 k N l' t' m' bh (i + 1) b q) r ∧ (1 ≤ r.1.length ∧ (r.1.length : Int) ≤ N + 1 ∧ p ≤ r.2 ∧ r.2 ≤ p + (d + 1 : Nat) * 20) := by
      intro l' t' m' q h1 h2 h3
      obtain ⟨r, hr, c1, c2, c3, c4⟩ := ih l' t' m' (i + 1) q (by omega) (by omega) h1 (by omega) (by omega)
      exact ⟨r, hr, c1, c2, by omega, by omega⟩
    refine step_ex (f := fun k => _) (fun k => by simp only [spec_l20Log.l0]; rfl) ?_
    refine ite_ex (fun _ => ?_) (fun h => absurd (show i < N by omega) h)
    refine bind_ex e1 (bind_ex e2 ?_)
    simp only [hw]
    refine ite_ex (fun _ => ?_) (fun _ => ?_)
    · repeat' (refine ite_ex (fun _ => ?_) (fun _ => ?_))
      all_goals first | exact again _ _ _ _ (by first | omega | (simp; omega)) (by omega) (by omega) | (exfalso; omega)
    · obtain ⟨x0, x1, x2, x3, x4, q1, e3, a3, b3⟩ := rec_ev hb (p := p + 1 + 1) (by omega)
      obtain ⟨v4, e4, a4, b4⟩ := pick_ev hb (p := q1) (by omega) (n := 20) (by omega)
      obtain ⟨v5, e5, a5, b5⟩ := pick_ev hb (p := q1 + 1) (by omega) (n := 7) (by omega)
      obtain ⟨v6, e6, a6, b6⟩ := pick_ev hb (p := q1 + 1 + 1) (by omega) (n := 3) (by omega)
      have l5 : v5 < (([0, 0, 1, 2, 4, 8, v4] : List Int).length : Int) := by simpa using b5
      refine bind_ex e3 (bind_ex e4 ?_)
      simp only [Option.bind_some]
      refine bind_ex e5 ?_
      simp only [if_pos a5, if_pos l5]
      refine bind_ex e6 ?_
      repeat' (refine ite_ex (fun _ => ?_) (fun _ => ?_))
      all_goals first | exact again _ _ _ _ (by first | omega | (simp; omega)) (by omega) (by omega) | (exfalso; omega)
theorem log_ev {b : List Int} (hb : Code b) {p : Int} (hp : 0 ≤ p ∧ p ≤ 999980000) {N : Int} (h0 : 0 ≤ N) (hN : N ≤ 16) : ∃ r : List S70 × Int, Ev (fun k => spec_l20Log.f k b p N) r ∧ (1 ≤ r.1.length ∧ (r.1.length : Int) ≤ N + 1 ∧ p ≤ r.2 ∧ r.2 ≤ p + 400) := by
  obtain ⟨v1, e1, a1, b1⟩ := pick_ev hb (p := p) (by omega) (n := 5) (by omega)
  obtain ⟨v2, e2, a2, b2⟩ := pick_ev hb (p := p + 1) (by omega) (n := 6) (by omega)
  have l2 : v2 < (([0, 0, 1, 3, 7, 12] : List Int).length : Int) := by simpa using b2
  obtain ⟨r, hr, c1, c2, c3, c4⟩ := log_loop hb N hN (rd [0, 0, 1, 3, 7, 12] v2) N.toNat [] v1 0 0 (p + 1 + 1) (by omega) (by omega) (by simp) (by omega) (by omega)
  unfold spec_l20Log.f
  refine bind_ex e1 ?_
  simp only [Option.bind_some]
  refine bind_ex e2 ?_
  simp only [if_pos a2, if_pos l2]
  exact ⟨r, hr, c1, c2, by omega, by omega⟩
theorem anylog_loop {b : List Int} (hb : Code b) (d : Nat) : ∀ (l : List S70) (p : Int), l.length + d = 41 → 0 ≤ p → p + d * 4 ≤ 999990000 → ∃ r : List S70 × Int, Ev (fun k => spec_l20AnyLog.l0 k l b p) r ∧ (r.1.length ≤ 41 ∧ p ≤ r.2 ∧ r.2 ≤ p + d * 4) := by
  induction d with
  | zero =>
    intro l p hl hp0 hp1
    exact ⟨(l, p), Ev_now1 (fun k => by simp only [spec_l20AnyLog.l0]; rw [if_neg (by omega)]), by simp only; omega⟩
  | succ d ih =>
    intro l p hl hp0 hp1
    obtain ⟨x0, x1, x2, x3, x4, q1, e3, a3, b3⟩ := rec_ev hb (p := p) (by omega)
    obtain ⟨r, hr, c1, c2, c3⟩ := ih ([⟨x0, x1, x2, x3, x4⟩] ++ l) q1 (by simp; omega) (by omega) (by omega)
    refine step_ex (f := fun k => _) (fun k => by simp only [spec_l20AnyLog.l0]; rfl) ?_
    refine ite_ex (fun _ => ?_) (fun h => absurd (show (l.length : Int) ≤ 40 by omega) h)
    refine bind_ex e3 ?_
    simp only [Option.bind_some]
    refine ite_ex (fun _ => ⟨r, hr, c1, by omega, by omega⟩) (fun h => absurd (show _ < 3518437208883 by first | omega | (simp; omega)) h)
theorem anylog_ev {b : List Int} (hb : Code b) {p : Int} (hp : 0 ≤ p ∧ p ≤ 999970000) {n : Int} (hn : 1 ≤ n) : ∃ r : List S70 × Int, Ev (fun k => spec_l20AnyLog.f k b p n) r ∧ (r.1.length ≤ 41 ∧ p ≤ r.2 ∧ r.2 ≤ p + 700) := by
  obtain ⟨v1, e1, a1, b1⟩ := pick_ev hb (p := p) (by omega) (n := 16) (by omega)
  obtain ⟨⟨l, q⟩, e2, c1, c2, c3, c4⟩ := log_ev hb (p := p + 1) (by omega) (N := v1) (by omega) (by omega)
  simp only at c1 c2 c3 c4
  obtain ⟨v3, e3, a3, b3⟩ := pick_ev hb (p := q) (by omega) (n := n) hn
  obtain ⟨v4, e4, a4, b4⟩ := pick_ev hb (p := q + 1) (by omega) (n := (l.length : Int)) (by omega)
  obtain ⟨v5, e5, a5, b5⟩ := pick_ev hb (p := q + 1 + 1) (by omega) (n := 5) (by omega)
  have hw : wrap64 ((l.length : Int) - 1) = (l.length : Int) - 1 := wrap_id (by omega) (by omega)
  unfold spec_l20AnyLog.f
  refine bind_ex e1 (bind_ex e2 (bind_ex e3 ?_))
  refine ite_ex (fun _ => ?_) (fun _ => ?_)
  · exact ⟨_, Ev.now _, by first | omega | (simp only; omega) | (simp; omega)⟩
  refine bind_ex e4 (bind_ex e5 ?_)
  simp only [hw]
  refine ite_ex (fun _ => ?_) (fun _ => ite_ex (fun _ => ?_) (fun _ => ite_ex (fun _ => ?_) (fun _ => ite_ex (fun _ => ?_) (fun _ => ?_))))
  · obtain ⟨x0, x1, x2, x3, x4, q1, e6, a6, b6⟩ := item_ev hb (p := q + 1 + 1 + 1) (by omega) (n := 2) (by omega)
    refine bind_ex e6 ?_
    refine ite_ex (fun _ => ite_ex (fun _ => ⟨_, Ev.now _, by first | omega | (simp only; omega) | (simp; omega)⟩) (fun h => absurd b4 h)) (fun h => absurd a4 h)
  · refine ite_ex (fun _ => ite_ex (fun _ => ⟨_, Ev.now _, by first | omega | (simp only; omega) | (simp; omega)⟩) (fun h => absurd (show (l.length : Int) - 1 ≤ (l.length : Int) by omega) h)) (fun h => absurd (show 0 ≤ (l.length : Int) - 1 by omega) h)
  · obtain ⟨x0, x1, x2, x3, x4, q1, e6, a6, b6⟩ := item_ev hb (p := q + 1 + 1 + 1) (by omega) (n := 3) (by omega)
    refine bind_ex e6 ?_
    refine ite_ex (fun _ => ⟨_, Ev.now _, by first | omega | (simp only; omega) | (simp; omega)⟩) (fun h => absurd (show l.length < 3518437208883 by omega) h)
  · obtain ⟨v6, e6, a6, b6⟩ := pick_ev hb (p := q + 1 + 1 + 1) (by omega) (n := 60) (by omega)
    simp only [Option.bind_some]
    refine ite_ex (fun _ => ?_) (fun h => absurd a4 h)
    refine ite_ex (fun _ => ?_) (fun h => absurd (show v4 ≤ (l.length : Int) by omega) h)
    refine ite_ex (fun _ => ?_) (fun h => absurd (show _ < 3518437208883 by first | omega | (simp; omega)) h)
    refine bind_ex e6 ?_
    refine ite_ex (fun _ => ?_) (fun h => absurd (show _ < 3518437208883 by first | omega | (simp; omega)) h)
    refine ite_ex (fun _ => ⟨_, Ev.now _, by first | omega | (simp only; omega) | (simp; omega)⟩) (fun h => absurd (show _ < 3518437208883 by first | omega | (simp; omega)) h)
  · obtain ⟨r, hr, d1, d2, d3⟩ := anylog_loop hb (41 - l.length) l (q + 1 + 1 + 1) (by omega) (by omega) (by omega)
    exact ⟨r, hr, d1, by omega, by omega⟩
/-- One round: a record that is not too small is kept. -/
def stp (least : Int) (s : List S70) (x : S70) : List S70 := if x.f0 = 1 ∧ x.f3 ≥ least then s ++ [x] else s
theorem stp_le (least : Int) (s : List S70) (x : S70) : (stp least s x).length ≤ s.length + 1 := by
  unfold stp
  split <;> simp
theorem foldl_stp_le (least : Int) (l : List S70) (s : List S70) : (l.foldl (stp least) s).length ≤ s.length + l.length := by
  induction l generalizing s with
  | nil => simp
  | cons x l ih =>
    have h1 := ih (stp least s x)
    have h2 := stp_le least s x
    simp only [List.foldl_cons, List.length_cons]
    omega
theorem recs_spec (l : List S70) (least : Int) (hl : l.length ≤ 1048576) : Ev (fun k => spec_LogRecs.f k l least) (l.foldl (stp least) []) := by
  have h := Ev_run (fun k s i => spec_LogRecs.l0 k l least s i) l (fun s x => .inr (stp least s x)) id (fun j s => s.length ≤ j) (fun j s hj hi s' hs => by
      obtain rfl := Sum.inr.inj hs
      refine ⟨by have := stp_le least s l[j]; omega, fun r hr => Ev_eq hr (fun k => ?_)⟩
      simp only [spec_LogRecs.l0]
      rw [if_pos (by omega), if_pos (by omega), rd70_at l j hj, wrap_nat hj (by omega)]
      unfold stp
      by_cases h1 : l[j].f0 = 1
      · by_cases h2 : l[j].f3 ≥ least
        · rw [if_pos h1, if_pos h2, if_pos (by omega), if_pos ⟨h1, h2⟩]
        · rw [if_pos h1, if_neg h2, if_neg (fun h => h2 h.2)]
      · rw [if_neg h1, if_neg (fun h => h1 h.1)]) (fun j s hj _ r h => by cases h) (fun s _ => Ev_now1 (fun k => by simp only [spec_LogRecs.l0]; rw [if_neg (by omega)]; rfl)) [] (by simp)
  rw [runL_fold] at h
  exact h
theorem recs_impl (l : List S70) (least : Int) (hl : l.length ≤ 1048576) : Ev (fun k => impl_LogRecs.f k l least) (l.foldl (stp least) []) := by
  have h := Ev_run (fun k s i => impl_LogRecs.l0 k least s l (l.length : Int) i) l (fun s x => .inr (stp least s x)) id (fun j s => s.length ≤ j) (fun j s hj hi s' hs => by
      obtain rfl := Sum.inr.inj hs
      refine ⟨by have := stp_le least s l[j]; omega, fun r hr => Ev_eq hr (fun k => ?_)⟩
      simp only [impl_LogRecs.l0]
      rw [if_pos (by omega), if_pos (by omega), if_pos (by omega), rd70_at l j hj, wrap_nat hj (by omega)]
      unfold stp
      by_cases h1 : l[j].f0 = 1
      · by_cases h2 : l[j].f3 ≥ least
        · rw [if_pos h1, if_pos h2, if_pos (by omega), if_pos ⟨h1, h2⟩]
        · rw [if_pos h1, if_neg h2, if_neg (fun h => h2 h.2)]
      · rw [if_neg h1, if_neg (fun h => h1 h.1)]) (fun j s hj _ r h => by cases h) (fun s _ => Ev_now1 (fun k => by simp only [impl_LogRecs.l0]; rw [if_neg (by omega)]; rfl)) [] (by simp)
  rw [runL_fold] at h
  exact h
theorem frItems_ev (l : List S70) (hl : l.length ≤ 1048576) : Ev (fun k => laws_frItems.f k l l) true := by
  have h := loop (fun k (_ : Unit) i => laws_frItems.l0 k l l i) l.length (fun _ _ => True) (fun r => r = true)
    (fun j s hj _ => .inl ⟨(), trivial, fun r hr => Ev_eq hr (fun k => by
      simp only [laws_frItems.l0]
      rw [if_pos (by omega), if_pos (by omega), if_pos (by omega), wrap_nat hj (by omega)]
      simp)⟩)
    (fun s _ => ⟨true, Ev_now1 (fun k => by simp only [laws_frItems.l0]; rw [if_neg (by omega)]), rfl⟩) () trivial
  obtain ⟨r, hr, rfl⟩ := h
  unfold laws_frItems.f
  simp only [if_true]
  exact hr
theorem frOk_is : laws_frOk.f = some true := by decide +kernel
def kp (a : Int) (x : S70) : Bool := decide (x.f0 = 1) && decide (x.f3 ≥ a)
theorem fold_is (a : Int) (l s : List S70) : l.foldl (stp a) s = s ++ l.filter (kp a) := by
  induction l generalizing s with
  | nil => simp
  | cons x l ih =>
    rw [List.foldl_cons, ih]
    unfold stp
    by_cases h : x.f0 = 1 ∧ x.f3 ≥ a
    · have hk : kp a x = true := by unfold kp; simp only [h.1, decide_true, Bool.true_and]; exact decide_eq_true h.2
      rw [if_pos h, List.filter_cons_of_pos hk, List.append_assoc]
      rfl
    · have hk : ¬ kp a x = true := by
        unfold kp
        intro e
        rw [Bool.and_eq_true] at e
        exact h ⟨of_decide_eq_true e.1, of_decide_eq_true e.2⟩
      rw [if_neg h, List.filter_cons_of_neg hk]
theorem keep_le (a b : Int) (h : b ≤ a) (l : List S70) : (l.filter (kp a)).length ≤ (l.filter (kp b)).length := by
  induction l with
  | nil => simp
  | cons x l ih =>
    by_cases ha : kp a x = true
    · have hb : kp b x = true := by
        unfold kp at ha ⊢
        rw [Bool.and_eq_true] at ha ⊢
        have := of_decide_eq_true ha.2
        exact ⟨ha.1, decide_eq_true (by omega)⟩
      rw [List.filter_cons_of_pos ha, List.filter_cons_of_pos hb]
      simp only [List.length_cons]
      omega
    · rw [List.filter_cons_of_neg ha]
      by_cases hb : kp b x = true
      · rw [List.filter_cons_of_pos hb]
        simp only [List.length_cons]
        omega
      · rw [List.filter_cons_of_neg hb]
        exact ih
theorem FnLogRecs : laws_FnLogRecs.Pure := by
  intro l _ _ hx
  apply Ev.rounds
  unfold laws_FnLogRecs.f
  by_cases hl : (l.length : Int) > 1048576
  · simp only [if_pos hl]
    exact Ev.now _
  · simp only [if_neg hl]
    obtain ⟨b, ho, hb⟩ := open_ev (l := l) (by omega) hx
    obtain ⟨⟨g, q⟩, e1, c1, c2, c3⟩ := anylog_ev hb (p := 0) (by omega) (n := 8) (by omega)
    simp only at c1 c2 c3
    obtain ⟨v, e2, d1, d2⟩ := pick_ev hb (p := q) (by omega) (n := 19) (by omega)
    have hw : wrap64 (v - 9) = v - 9 := wrap_id (by omega) (by omega)
    have hd : Ev (fun k => spec_DrawLogRecs.f k l) (g, v - 9) := by
      unfold spec_DrawLogRecs.f
      rw [ho]
      simp only [Option.bind_some]
      refine Ev.bind e1 (Ev.bind e2 ?_)
      simp only [hw]
      exact Ev.now _
    refine Ev.bind hd ?_
    clear hd hw
    generalize hV : v - 9 = y
    have hy : -9 ≤ y ∧ y ≤ 9 := by omega
    have hg : g.length ≤ 1048576 := by omega
    have recs : ∀ (a : Int) (m : List S70), m.length ≤ 1048576 → Ev (fun k => impl_LogRecs.f k m a) (m.filter (kp a)) := fun a m hm => by
      have := recs_impl m a hm
      rw [fold_is] at this
      simpa using this
    have recs2 : Ev (fun k => spec_LogRecs.f k g y) (g.filter (kp y)) := by
      have := recs_spec g y hg
      rw [fold_is] at this
      simpa using this
    have hf : (g.filter (kp y)).length ≤ 1048576 := Nat.le_trans (List.length_filter_le _ _) hg
    refine Ev.bind (recs y g hg) (Ev.bind recs2 (Ev.bind (frItems_ev _ hf) ?_))
    simp only [if_true]
    generalize hP : kp y = P
    have hPx : ∀ x, P x = (decide (x.f0 = 1) && decide (x.f3 ≥ y)) := fun x => by rw [← hP]; rfl
    rw [hP] at hf
    have hstep : ∀ j (hj : j < g.length), (g.take (j + 1)).filter P = (g.take j).filter P ++ (if P g[j] = true then [g[j]] else []) := fun j hj => by
      rw [List.take_succ_eq_append_getElem hj, List.filter_append]
      congr 1
      cases h : P g[j] <;> simp [h]
    have hs := loop (fun k (z : Int) i => laws_FnLogRecs.l0 k g y (g.filter P) z i) g.length (fun j z => z = (((g.take j).filter P).length : Int)) (fun z => z = true)
      (fun j z hj hi => by
        have ht := hstep j hj
        have hsplit : g.filter P = (g.take j).filter P ++ (g.drop j).filter P := by rw [← List.filter_append, List.take_append_drop]
        have hm : ((g.take j).filter P).length ≤ (g.filter P).length := by rw [hsplit, List.length_append]; omega
        refine .inl ⟨(((g.take (j + 1)).filter P).length : Int), rfl, fun r hr => ?_⟩
        refine Ev_eq (f := fun k => laws_FnLogRecs.j1 k g y (g.filter P) z j (P g[j])) ?_ (fun k => by
          simp only [laws_FnLogRecs.l0]
          rw [if_pos (by omega), if_pos (by omega), rd70_at g j hj, hPx]
          by_cases h : g[j].f0 = 1
          · rw [if_pos h, decide_eq_true h, Bool.true_and]
          · rw [if_neg h, decide_eq_false h, Bool.false_and])
        by_cases h : P g[j] = true
        · rw [if_pos h] at ht
          rw [ht, List.length_append] at hr
          have hlen : ((g.take j).filter P).length < (g.filter P).length := by
            rw [hsplit, List.length_append, List.drop_eq_getElem_cons hj, List.filter_cons_of_pos h]
            simp
          have hat : (g.filter P)[((g.take j).filter P).length]'hlen = g[j] := by
            simp only [hsplit, List.drop_eq_getElem_cons hj, List.filter_cons_of_pos h]
            rw [List.getElem_append_right (Nat.le_refl _)]
            simp
          refine Ev_eq hr (fun k => ?_)
          simp only [laws_FnLogRecs.j1]
          rw [hi, if_pos h, if_neg (by omega), if_pos (by omega), if_pos (by omega), if_pos (by omega), if_pos (by omega), rd70_at g j hj, rd70_at _ _ hlen, hat, wrap_nat hj (by omega), wrap_nat hlen (by omega)]
          simp
        · rw [if_neg h, List.append_nil] at ht
          rw [ht] at hr
          refine Ev_eq hr (fun k => ?_)
          simp only [laws_FnLogRecs.j1]
          rw [hi, if_neg h, wrap_nat hj (by omega)])
      (fun z hi => by
        rw [List.take_length] at hi
        refine ⟨true, ?_, rfl⟩
        have hw : wrap64 (y - 1) = y - 1 := wrap_id (by omega) (by omega)
        have hle := keep_le y (y - 1) (by omega) g
        rw [hP] at hle
        refine Ev.step (f := fun k => _) (fun k => by simp only [laws_FnLogRecs.l0]; rw [if_neg (by omega), if_pos hi, hw]) ?_
        refine Ev.bind (recs (y - 1) g hg) ?_
        simp only [if_pos (show ((g.filter (kp (y - 1))).length : Int) ≥ z by omega)]
        have hr := recs y (g.filter P) hf
        rw [hP] at hr
        have hff : (g.filter P).filter P = g.filter P := by rw [List.filter_filter]; simp
        rw [hff] at hr
        refine Ev.bind hr (Ev.bind (frItems_ev _ hf) ?_)
        simp only [if_true, frOk_is, Option.bind_some]
        exact Ev.now _) 0 (by simp)
    obtain ⟨z, hz, rfl⟩ := hs
    exact hz

end Go.Proofs.Ytkmckalckafloaa.Pure
