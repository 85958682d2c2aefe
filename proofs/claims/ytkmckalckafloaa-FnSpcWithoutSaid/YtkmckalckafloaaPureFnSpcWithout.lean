/- The law FnSpcWithout over numbers and lists: the Lean function of it that was printed answers true. No condition but that each number is one of its kind. -/
import Derived.Test.YtkmckalckafloaaQFnSpcWithoutx5
import Derived.Test.YtkmckalckafloaaAid
set_option linter.unusedVariables false
set_option linter.unusedSimpArgs false
namespace Go.Proofs.Ytkmckalckafloaa.Pure
open Go.RowKit Go.Proofs.Ytkmckalckafloaa.PFnSpcWithout Go.Proofs.YtkmckalckafloaaW.PrintWords Go.Proofs.YtkmckalckafloaaW.PrintLast Go.Proofs.Ytkmckalckafloaa.Aid

theorem rd70_at (l : List S70) (j : Nat) (h : j < l.length) : rd_T70 l (j : Int) = l[j] := by simp [rd_T70, List.getD_eq_getElem?_getD, h]
/-- A code that may be read: bytes, not too many. -/
def Code (b : List Int) : Prop := b.length ≤ 2000 ∧ ∀ x ∈ b, 0 ≤ x ∧ x ≤ 255
theorem code_rd {b : List Int} (hb : Code b) (i : Int) : 0 ≤ rd b i ∧ rd b i ≤ 255 := by
  unfold rd
  rw [List.getD_eq_getElem?_getD]
  rcases Nat.lt_or_ge i.toNat b.length with h | h
  · rw [List.getElem?_eq_getElem h]
    exact hb.2 _ (List.getElem_mem h)
  · rw [List.getElem?_eq_none h]
    exact ⟨Int.le_refl _, by decide⟩
theorem xor_pos (x y : Int) (hx : 0 ≤ x ∧ x < 4611686018427387904) (hy : 0 ≤ y ∧ y < 4611686018427387904) : 0 ≤ Go.bits .xor .i64 x y := by
  obtain ⟨a, rfl⟩ := Int.eq_ofNat_of_zero_le hx.1
  obtain ⟨b, rfl⟩ := Int.eq_ofNat_of_zero_le hy.1
  have ha : a < 2 ^ 62 := by omega
  have hb : b < 2 ^ 62 := by omega
  have ha' : a % 2 ^ IntKind.i64.bits = a := Nat.mod_eq_of_lt (Nat.lt_of_lt_of_le ha (by decide))
  have hb' : b % 2 ^ IntKind.i64.bits = b := Nat.mod_eq_of_lt (Nat.lt_of_lt_of_le hb (by decide))
  have hxr : a ^^^ b < 2 ^ 62 := Nat.xor_lt_two_pow ha hb
  simp only [Go.bits, BitVec.ofInt_natCast, BitVec.toNat_xor, BitVec.toNat_ofNat, ha', hb']
  rw [IntKind.wrap_i64]
  have : ((a ^^^ b : Nat) : Int) < 2 ^ 62 := by exact_mod_cast hxr
  omega
theorem tmod_in (x n : Int) (hx : 0 ≤ x) (hn : 1 ≤ n) : 0 ≤ Int.tmod x n ∧ Int.tmod x n < n :=
  ⟨Int.tmod_nonneg _ hx, Int.tmod_lt_of_pos _ (by omega)⟩
theorem pick_ev {b : List Int} (hb : Code b) {p : Int} (hp : 0 ≤ p ∧ p ≤ 1000000000) {n : Int} (hn : 1 ≤ n) : ∃ v, Ev (fun k => spec_l20Rd_pick.f k b p n) (v, p + 1) ∧ 0 ≤ v ∧ v < n := by
  have hl := hb.1
  have hw : wrap64 (p + 1) = p + 1 := wrap_id (by omega) (by omega)
  have hw2 : wrap64 (p + 1 - 1) = p := by rw [wrap_id (by omega) (by omega)]; omega
  have e0 : ∀ k, spec_l20Rd_pick.f k b p n = spec_l20Rd_pick.j0 k n ((b.length : Int) == 0) b (p + 1) := fun k => by
    unfold spec_l20Rd_pick.f
    rw [if_neg (by omega), hw]
  by_cases hz : b.length = 0
  · refine ⟨0, Ev.congr e0 (Ev_now1 (fun k => ?_)), by omega, by omega⟩
    simp only [spec_l20Rd_pick.j0]
    rw [if_pos (by simp [hz])]
  · have hz' : ((b.length : Int) == 0) = false := by simpa using hz
    have hlp : (1 : Int) ≤ (b.length : Int) := by omega
    rw [hz'] at e0
    by_cases h1 : p < (b.length : Int)
    · have hr := code_rd hb p
      have hwr : wrap64 (rd b p) = rd b p := wrap_id (by omega) (by omega)
      obtain ⟨t0, t1⟩ := tmod_in (rd b p) n hr.1 hn
      refine ⟨Int.tmod (rd b p) n, Ev.congr e0 (Ev_now1 (fun k => ?_)), t0, t1⟩
      simp only [spec_l20Rd_pick.j0]
      rw [if_neg (by simp), hw2, if_pos h1, if_pos hp.1, if_neg (by omega), hwr]
    · obtain ⟨t0, t1⟩ := tmod_in p (b.length : Int) hp.1 hlp
      have w7 : wrap64 (p * 7) = p * 7 := wrap_id (by omega) (by omega)
      have w73 : wrap64 (p * 7 + 3) = p * 7 + 3 := wrap_id (by omega) (by omega)
      obtain ⟨s0, s1⟩ := tmod_in (p * 7 + 3) (b.length : Int) (by omega) hlp
      have ra := code_rd hb (Int.tmod p (b.length : Int))
      have rb := code_rd hb (Int.tmod (p * 7 + 3) (b.length : Int))
      have hd0 : 0 ≤ Int.tdiv p (b.length : Int) := Int.tdiv_nonneg hp.1 (by omega)
      have hd1 : Int.tdiv p (b.length : Int) ≤ p := by
        rw [Int.tdiv_eq_ediv_of_nonneg hp.1]
        exact Int.ediv_le_self _ hp.1
      generalize hA : rd b (Int.tmod p (b.length : Int)) = A at ra
      generalize hB : rd b (Int.tmod (p * 7 + 3) (b.length : Int)) = B at rb
      generalize hD : Int.tdiv p (b.length : Int) = D at hd0 hd1
      have v1 : wrap64 A = A := wrap_id (by omega) (by omega)
      have v2 : wrap64 (A * 131) = A * 131 := wrap_id (by omega) (by omega)
      have v3 : wrap64 B = B := wrap_id (by omega) (by omega)
      have v4 : wrap64 (B * 1117) = B * 1117 := wrap_id (by omega) (by omega)
      have v5 : wrap64 (A * 131 + B * 1117) = A * 131 + B * 1117 := wrap_id (by omega) (by omega)
      have v6 : wrap64 (p * 29) = p * 29 := wrap_id (by omega) (by omega)
      have v7 : wrap64 (A * 131 + B * 1117 + p * 29) = A * 131 + B * 1117 + p * 29 := wrap_id (by omega) (by omega)
      have v8 : wrap64 D = D := wrap_id (by omega) (by omega)
      have v9 : wrap64 (D * 53) = D * 53 := wrap_id (by omega) (by omega)
      have v10 : wrap64 (A * 131 + B * 1117 + p * 29 + D * 53) = A * 131 + B * 1117 + p * 29 + D * 53 := wrap_id (by omega) (by omega)
      have hx0 : 0 ≤ A * 131 + B * 1117 + p * 29 + D * 53 ∧ A * 131 + B * 1117 + p * 29 + D * 53 < 4611686018427387904 := by omega
      generalize hX : A * 131 + B * 1117 + p * 29 + D * 53 = X at v10 hx0
      have hq0 : 0 ≤ Int.tdiv X 64 := Int.tdiv_nonneg hx0.1 (by omega)
      have hq1 : Int.tdiv X 64 ≤ X := by
        rw [Int.tdiv_eq_ediv_of_nonneg hx0.1]
        omega
      have v11 : wrap64 (Int.tdiv X 64) = Int.tdiv X 64 := wrap_id (by omega) (by omega)
      have hxor := xor_pos X (Int.tdiv X 64) hx0 ⟨hq0, by omega⟩
      obtain ⟨u0, u1⟩ := tmod_in _ n hxor hn
      refine ⟨Int.tmod (Go.bits .xor .i64 X (Int.tdiv X 64)) n, Ev.congr e0 (Ev_now1 (fun k => ?_)), u0, u1⟩
      simp only [spec_l20Rd_pick.j0]
      rw [if_neg (by simp), hw2, if_neg h1, if_neg (by omega), if_pos t0, if_pos t1]
      simp only [w7, w73]
      rw [if_pos s0, if_pos s1, if_neg (by omega)]
      simp only [hA, hB, hD, v1, v2, v3, v4, v5, v6, v7, v8, v9, v10, hX, v11]
theorem open_ev {l : List Int} (hl : l.length ≤ 1048576) (hb : ∀ x ∈ l, (Lit.int .u8 x).wf = true) : ∃ b, spec_l20Open.f l = some (b, 0) ∧ Code b := by
  have hx : ∀ x ∈ l, 0 ≤ x ∧ x ≤ 255 := fun x h => by
    have := hb x h
    simp only [Lit.wf, Bool.and_eq_true, decide_eq_true_eq] at this
    have a : IntKind.u8.min = 0 := by decide
    have b : IntKind.u8.max = 255 := by decide
    omega
  unfold spec_l20Open.f
  by_cases h : (l.length : Int) > 2000
  · rw [if_pos h, if_pos (by omega)]
    exact ⟨_, rfl, by simp; omega, fun x hm => hx x (List.mem_of_mem_take hm)⟩
  · rw [if_neg h]
    exact ⟨_, rfl, by omega, hx⟩
theorem rdlit (xs : List Int) (i : Int) (h0 : 0 ≤ i) (h1 : i < (xs.length : Int)) : rd xs i ∈ xs := by
  unfold rd
  have h : i.toNat < xs.length := by omega
  rw [List.getD_eq_getElem?_getD, List.getElem?_eq_getElem h]
  exact List.getElem_mem h
theorem rec_ev {b : List Int} (hb : Code b) {p : Int} (hp : 0 ≤ p ∧ p ≤ 999999900) : ∃ x0 x1 x2 x3 x4 q, Ev (fun k => spec_l20Rec.f k b p) (x0, x1, x2, x3, x4, q) ∧ p ≤ q ∧ q ≤ p + 4 := by
  obtain ⟨v1, e1, a1, b1⟩ := pick_ev hb (p := p) (by omega) (n := 61) (by omega)
  obtain ⟨v2, e2, a2, b2⟩ := pick_ev hb (p := p + 1) (by omega) (n := 6) (by omega)
  obtain ⟨v3, e3, a3, b3⟩ := pick_ev hb (p := p + 1 + 1) (by omega) (n := 4) (by omega)
  obtain ⟨v4, e4, a4, b4⟩ := pick_ev hb (p := p + 1 + 1 + 1) (by omega) (n := 19) (by omega)
  have l1 : v2 < (([0, 1, 5, 20, 60, v1] : List Int).length : Int) := by simpa using b2
  refine ⟨?_, ?_, ?_, ?_, ?_, ?_, ?e, ?_, ?_⟩
  case e =>
    unfold spec_l20Rec.f
    refine Ev.bind e1 ?_
    simp only [Option.bind_some]
    refine Ev.bind e2 ?_
    simp only [if_pos a2, if_pos l1]
    refine Ev.bind e3 (Ev.bind e4 ?_)
    exact Ev.now _
  all_goals omega
theorem itemj_ev {b : List Int} (hb : Code b) {p : Int} (hp : 0 ≤ p ∧ p ≤ 999999900) {n : Int} (hn : 1 ≤ n) (y0 y1 y2 y3 y4 : Int) : ∃ x0 x1 x2 x3 x4 q, Ev (fun k => spec_l20Item.j0 k n b p y0 y1 y2 y3 y4) (x0, x1, x2, x3, x4, q) ∧ p ≤ q ∧ q ≤ p + 3 := by
  obtain ⟨v1, e1, a1, b1⟩ := pick_ev hb (p := p) (by omega) (n := n) hn
  by_cases h1 : v1 > 0
  · refine ⟨?_, ?_, ?_, ?_, ?_, ?_, Ev.step (fun k => by simp only [spec_l20Item.j0]; rfl) (Ev.bind e1 ?e), ?_, ?_⟩
    case e =>
      simp only [if_pos h1]
      exact Ev.now _
    all_goals omega
  · obtain ⟨v2, e2, a2, b2⟩ := pick_ev hb (p := p + 1) (by omega) (n := 7) (by omega)
    obtain ⟨v3, e3, a3, b3⟩ := pick_ev hb (p := p + 1 + 1) (by omega) (n := 5) (by omega)
    have l1 : v2 < (([(-1), 0, 61, 4, 10, 1000, 901] : List Int).length : Int) := by simpa using b2
    by_cases c0 : v3 = 0
    · refine ⟨?_, ?_, ?_, ?_, ?_, ?_, Ev.step (fun k => by simp only [spec_l20Item.j0]; rfl) (Ev.bind e1 ?e), ?_, ?_⟩
      case e =>
        simp only [if_neg h1, Option.bind_some]
        refine Ev.bind e2 ?_
        simp only [if_pos a2, if_pos l1]
        refine Ev.bind e3 ?_
        simp only [if_pos c0]
        exact Ev.now _
      all_goals omega
    by_cases c1 : v3 = 1
    · refine ⟨?_, ?_, ?_, ?_, ?_, ?_, Ev.step (fun k => by simp only [spec_l20Item.j0]; rfl) (Ev.bind e1 ?e), ?_, ?_⟩
      case e =>
        simp only [if_neg h1, Option.bind_some]
        refine Ev.bind e2 ?_
        simp only [if_pos a2, if_pos l1]
        refine Ev.bind e3 ?_
        simp only [if_neg c0, if_pos c1]
        exact Ev.now _
      all_goals omega
    by_cases c2 : v3 = 2
    · refine ⟨?_, ?_, ?_, ?_, ?_, ?_, Ev.step (fun k => by simp only [spec_l20Item.j0]; rfl) (Ev.bind e1 ?e), ?_, ?_⟩
      case e =>
        simp only [if_neg h1, Option.bind_some]
        refine Ev.bind e2 ?_
        simp only [if_pos a2, if_pos l1]
        refine Ev.bind e3 ?_
        simp only [if_neg c0, if_neg c1, if_pos c2]
        exact Ev.now _
      all_goals omega
    by_cases c3 : v3 = 3
    · refine ⟨?_, ?_, ?_, ?_, ?_, ?_, Ev.step (fun k => by simp only [spec_l20Item.j0]; rfl) (Ev.bind e1 ?e), ?_, ?_⟩
      case e =>
        simp only [if_neg h1, Option.bind_some]
        refine Ev.bind e2 ?_
        simp only [if_pos a2, if_pos l1]
        refine Ev.bind e3 ?_
        simp only [if_neg c0, if_neg c1, if_neg c2, if_pos c3]
        exact Ev.now _
      all_goals omega
    · refine ⟨?_, ?_, ?_, ?_, ?_, ?_, Ev.step (fun k => by simp only [spec_l20Item.j0]; rfl) (Ev.bind e1 ?e), ?_, ?_⟩
      case e =>
        simp only [if_neg h1, Option.bind_some]
        refine Ev.bind e2 ?_
        simp only [if_pos a2, if_pos l1]
        refine Ev.bind e3 ?_
        simp only [if_neg c0, if_neg c1, if_neg c2, if_neg c3]
        exact Ev.now _
      all_goals omega
theorem item_ev {b : List Int} (hb : Code b) {p : Int} (hp : 0 ≤ p ∧ p ≤ 999999800) {n : Int} (hn : 1 ≤ n) : ∃ x0 x1 x2 x3 x4 q, Ev (fun k => spec_l20Item.f k b p n) (x0, x1, x2, x3, x4, q) ∧ p ≤ q ∧ q ≤ p + 9 := by
  obtain ⟨y0, y1, y2, y3, y4, q1, e1, a1, b1⟩ := rec_ev hb (p := p) (by omega)
  obtain ⟨v2, e2, a2, b2⟩ := pick_ev hb (p := q1) (by omega) (n := 4) (by omega)
  by_cases h0 : v2 = 0
  · obtain ⟨v3, e3, a3, b3⟩ := pick_ev hb (p := q1 + 1) (by omega) (n := 4) (by omega)
    have l1 : v3 < (([1, 10, 60, 1000] : List Int).length : Int) := by simpa using b3
    obtain ⟨x0, x1, x2, x3, x4, q, e4, a4, b4⟩ := itemj_ev hb (p := q1 + 1 + 1) (by omega) hn 2 (rd [1, 10, 60, 1000] v3) 0 0 0
    refine ⟨x0, x1, x2, x3, x4, q, ?_, by omega, by omega⟩
    unfold spec_l20Item.f
    refine Ev.bind e1 (Ev.bind e2 ?_)
    simp only [if_pos h0, Option.bind_some]
    refine Ev.bind e3 ?_
    simp only [if_pos a3, if_pos l1]
    exact e4
  by_cases h1 : v2 = 1
  · obtain ⟨v3, e3, a3, b3⟩ := pick_ev hb (p := q1 + 1) (by omega) (n := 3) (by omega)
    have l1 : v3 < (([1, 2, 900] : List Int).length : Int) := by simpa using b3
    obtain ⟨x0, x1, x2, x3, x4, q, e4, a4, b4⟩ := itemj_ev hb (p := q1 + 1 + 1) (by omega) hn 3 0 0 0 (rd [1, 2, 900] v3)
    refine ⟨x0, x1, x2, x3, x4, q, ?_, by omega, by omega⟩
    unfold spec_l20Item.f
    refine Ev.bind e1 (Ev.bind e2 ?_)
    simp only [if_neg h0, if_pos h1, Option.bind_some]
    refine Ev.bind e3 ?_
    simp only [if_pos a3, if_pos l1]
    exact e4
  · obtain ⟨x0, x1, x2, x3, x4, q, e4, a4, b4⟩ := itemj_ev hb (p := q1 + 1) (by omega) hn y0 y1 y2 y3 y4
    refine ⟨x0, x1, x2, x3, x4, q, ?_, by omega, by omega⟩
    unfold spec_l20Item.f
    refine Ev.bind e1 (Ev.bind e2 ?_)
    simp only [if_neg h0, if_neg h1]
    exact e4
theorem ite_ex {α : Type} {R : α → Prop} {c : Prop} [Decidable c] {f g : Nat → Option α} (h1 : c → ∃ r, Ev f r ∧ R r) (h2 : ¬ c → ∃ r, Ev g r ∧ R r) : ∃ r, Ev (fun k => if c then f k else g k) r ∧ R r := by
  by_cases h : c
  · simp only [if_pos h]
    exact h1 h
  · simp only [if_neg h]
    exact h2 h
theorem bind_ex {α β : Type} {R : β → Prop} {f : Nat → Option α} {a : α} (h : Ev f a) {g : Nat → α → Option β} (hg : ∃ r, Ev (fun k => g k a) r ∧ R r) : ∃ r, Ev (fun k => (f k).bind (g k)) r ∧ R r := by
  obtain ⟨r, hr, h2⟩ := hg
  exact ⟨r, Ev.bind h hr, h2⟩
theorem step_ex {α : Type} {R : α → Prop} {g f : Nat → Option α} (h : ∀ k, g (k + 1) = f k) (hf : ∃ r, Ev f r ∧ R r) : ∃ r, Ev g r ∧ R r := by
  obtain ⟨r, hr, h2⟩ := hf
  exact ⟨r, Ev.step h hr, h2⟩
theorem now_ex {α : Type} {R : α → Prop} (r : α) (h : R r) : ∃ r, Ev (fun _ => some r) r ∧ R r := ⟨r, Ev.now r, h⟩
def tup_it (x : S70) : Int × Int × Int × Int × Int := (x.f0, x.f1, x.f2, x.f3, x.f4)
theorem tup_inj {x y : S70} (h : tup_it x = tup_it y) : x = y := by
  obtain ⟨a0, a1, a2, a3, a4⟩ := x
  obtain ⟨b0, b1, b2, b3, b4⟩ := y
  simp only [tup_it, Prod.mk.injEq] at h
  obtain ⟨rfl, rfl, rfl, rfl, rfl⟩ := h
  rfl
instance decItem : DecidableEq S70 := fun x y => decidable_of_iff (tup_it x = tup_it y) ⟨tup_inj, fun h => by rw [h]⟩
theorem eq_item (x y : S70) : ((x.f0 == y.f0 && (x.f1 == y.f1 && (x.f2 == y.f2 && (x.f3 == y.f3 && (x.f4 == y.f4))))) = true) ↔ x = y := by
  constructor
  · intro h
    apply tup_inj
    simp only [Bool.and_eq_true, beq_iff_eq] at h
    obtain ⟨h0, h1, h2, h3, h4⟩ := h
    simp only [tup_it, h0, h1, h2, h3, h4]
  · rintro rfl
    simp
/-- The first place of x is j: what is left. -/
theorem erase_at {x : S70} : ∀ (l : List S70) (j : Nat) (hj : j < l.length), l[j] = x → (∀ i (hi : i < l.length), i < j → l[i] ≠ x) → l.eraseIdx j = l.erase x
  | [], j, hj, _, _ => absurd hj (Nat.not_lt_zero _)
  | y :: l, 0, _, h, _ => by
    simp only [List.getElem_cons_zero] at h
    subst h
    simp
  | y :: l, j + 1, hj, h, hb => by
    have hy : y ≠ x := hb 0 (by simp) (by omega)
    rw [List.erase_cons_tail (by simpa using hy), List.eraseIdx_cons_succ, erase_at l j (by simpa using hj) (by simpa using h) (fun i hi hij => by
      have := hb (i + 1) (by simpa using hi) (by omega)
      simpa using this)]
theorem index_ev (l : List S70) (hl : l.length ≤ 4000000) (x : S70) : ∃ r, Ev (fun k => impl_ItmItem_80.f k l x.f0 x.f1 x.f2 x.f3 x.f4) r ∧ ((r = -1 ∧ l.erase x = l) ∨ ∃ j : Nat, r = (j : Int) ∧ j < l.length ∧ l.eraseIdx j = l.erase x) := by
  unfold impl_ItmItem_80.f
  refine loop (fun k (_ : Unit) i => impl_ItmItem_80.l0 k l (l.length : Int) i x.f0 x.f1 x.f2 x.f3 x.f4) l.length (fun j _ => ∀ i (hi : i < l.length), i < j → l[i] ≠ x) _
    (fun j s hj hi => ?_) (fun s hi => ⟨-1, Ev_now1 (fun k => by simp only [impl_ItmItem_80.l0]; rw [if_neg (by omega)]), .inl ⟨rfl, ?_⟩⟩) () (fun i hi h0 => absurd h0 (Nat.not_lt_zero _))
  · by_cases he : x = l[j]
    · refine .inr ⟨(j : Int), Ev_now1 (fun k => ?_), .inr ⟨j, rfl, hj, erase_at l j hj he.symm hi⟩⟩
      simp only [impl_ItmItem_80.l0]
      rw [if_pos (by omega), if_pos (by omega), if_pos (by omega), rd70_at l j hj, if_pos ((eq_item _ _).2 he)]
    · refine .inl ⟨(), fun i hi' hij => ?_, fun r hr => Ev_eq hr (fun k => ?_)⟩
      · by_cases e : i = j
        · subst e
          exact fun h => he h.symm
        · exact hi i hi' (by omega)
      · simp only [impl_ItmItem_80.l0]
        rw [if_pos (by omega), if_pos (by omega), if_pos (by omega), rd70_at l j hj, if_neg (fun h => he ((eq_item _ _).1 h)), wrap_nat hj (by omega)]
  · refine List.erase_of_not_mem (fun hm => ?_)
    obtain ⟨i, hi', h⟩ := List.mem_iff_getElem.1 hm
    exact hi i hi' hi' h
/-- What is left of l without g's. -/
def wo (l g : List S70) : List S70 := g.foldl List.erase l
theorem wo_len (g l : List S70) : (wo l g).length ≤ l.length := by
  unfold wo
  induction g generalizing l with
  | nil => simp
  | cons x g ih =>
    have h1 := ih (l.erase x)
    have h2 := List.length_erase_le (a := x) (l := l)
    simp only [List.foldl_cons]
    omega
theorem wo_count (g l : List S70) (a : S70) : (wo l g).count a = l.count a - g.count a := by
  unfold wo
  induction g generalizing l with
  | nil => simp
  | cons x g ih =>
    simp only [List.foldl_cons]
    rw [ih, List.count_erase, List.count_cons]
    omega
theorem impl_without (l g : List S70) (hl : l.length ≤ 4000000) (hg : g.length ≤ 4000000) : Ev (fun k => impl_SpcWithout.f k l g) (wo l g) := by
  have h := Ev_run (fun k s i => impl_SpcWithout.l0 k s g (g.length : Int) i) g (fun s x => .inr (s.erase x)) id (fun _ s => s.length ≤ l.length) (fun j s hj hi s' hs => by
      obtain rfl := Sum.inr.inj hs
      refine ⟨Nat.le_trans (List.length_erase_le ..) hi, fun r hr => ?_⟩
      obtain ⟨t, ht, h⟩ := index_ev s (by omega) g[j]
      refine Ev.step (f := fun k => _) (fun k => by simp only [impl_SpcWithout.l0]; rw [if_pos (by omega), if_pos (by omega), if_pos (by omega), rd70_at g j hj, wrap_nat hj (by omega)]) (Ev.bind ht ?_)
      rcases h with ⟨rfl, he⟩ | ⟨i, rfl, hi2, he⟩
      · simp only [if_neg (show ¬ (-1 : Int) ≥ 0 by omega)]
        rw [he] at hr
        exact hr
      · have hd : spc_delete.f s (i : Int) (wrap64 ((i : Int) + 1)) = some (s.erase g[j]) := by
          unfold spc_delete.f
          rw [if_pos (by omega), if_pos (by omega), if_pos rfl, Int.toNat_natCast, he]
        simp only [if_pos (show (i : Int) ≥ 0 by omega), hd, Option.bind_some]
        exact hr) (fun j s hj _ r h => by cases h) (fun s _ => Ev_now1 (fun k => by simp only [impl_SpcWithout.l0]; rw [if_neg (by omega)]; rfl)) l (Nat.le_refl _)
  rw [runL_fold] at h
  unfold impl_SpcWithout.f spc_clone.f
  simp only [if_pos (show l.length < 3518437208883 by omega), Option.bind_some]
  exact h
theorem spec_round (g s : List S70) (hs : s.length ≤ 4000000) (hg : g.length ≤ 4000000) (j : Nat) (hj : j < g.length) (r : List S70) (hr : Ev (fun k => spec_SpcWithout.l0 k g (s.erase g[j]) ((j : Int) + 1)) r) : Ev (fun k => spec_SpcWithout.l1 k g s (j : Int) 0) r := by
  have h := loop (fun k (_ : Unit) i => spec_SpcWithout.l1 k g s (j : Int) i) s.length (fun m _ => ∀ i (hi : i < s.length), i < m → s[i] ≠ g[j]) (fun r' => r' = r)
    (fun m _ hm hi => by
      by_cases he : s[m] = g[j]
      · have e1 : s.erase g[j] = s.take m ++ s.drop (m + 1) := by rw [← erase_at s m hm he hi, List.eraseIdx_eq_take_drop_succ]
        rw [e1] at hr
        refine .inr ⟨r, Ev_eq hr (fun k => ?_), rfl⟩
        simp only [spec_SpcWithout.l1]
        have l1 : ([] : List S70).length + (s.take m).length < 3518437208883 := by simp; omega
        have l2 : (([] : List S70) ++ s.take m).length + (s.drop (m + 1)).length < 3518437208883 := by simp; omega
        rw [if_pos (by omega), if_pos (by omega), if_pos (by omega), if_pos (by omega), rd70_at s m hm, rd70_at g j hj, if_pos ((eq_item _ _).2 he)]
        simp -implicitDefEqProofs only [Option.bind_some]
        rw [wrap_nat hm (by omega), wrap_nat hj (by omega), show ((m : Int)).toNat = m from Int.toNat_natCast m, show ((m : Int) + 1).toNat = m + 1 by omega, if_pos (by omega), if_pos l1, if_pos (by omega), if_pos (by omega), if_pos l2, List.nil_append]
      · refine .inl ⟨(), fun i hi' him => ?_, fun r' hr' => Ev_eq hr' (fun k => ?_)⟩
        · by_cases e : i = m
          · subst e
            exact he
          · exact hi i hi' (by omega)
        · simp only [spec_SpcWithout.l1]
          rw [if_pos (by omega), if_pos (by omega), if_pos (by omega), if_pos (by omega), rd70_at s m hm, rd70_at g j hj, if_neg (fun h => he ((eq_item _ _).1 h)), wrap_nat hm (by omega)])
    (fun _ hi => by
      have e1 : s.erase g[j] = s := List.erase_of_not_mem (fun hm => by
        obtain ⟨i, hi', h⟩ := List.mem_iff_getElem.1 hm
        exact hi i hi' hi' h)
      rw [e1] at hr
      refine ⟨r, Ev_eq hr (fun k => ?_), rfl⟩
      simp only [spec_SpcWithout.l1]
      rw [if_neg (by omega), wrap_nat hj (by omega)]) () (fun i hi h0 => absurd h0 (Nat.not_lt_zero _))
  obtain ⟨r', h1, rfl⟩ := h
  exact h1
theorem spec_without (l g : List S70) (hl : l.length ≤ 4000000) (hg : g.length ≤ 4000000) : Ev (fun k => spec_SpcWithout.f k l g) (wo l g) := by
  have h := Ev_run (fun k s i => spec_SpcWithout.l0 k g s i) g (fun s x => .inr (s.erase x)) id (fun _ s => s.length ≤ l.length) (fun j s hj hi s' hs => by
      obtain rfl := Sum.inr.inj hs
      refine ⟨Nat.le_trans (List.length_erase_le ..) hi, fun r hr => Ev_eq (spec_round g s (by omega) hg j hj r hr) (fun k => ?_)⟩
      simp only [spec_SpcWithout.l0]
      rw [if_pos (by omega)]) (fun j s hj _ r h => by cases h) (fun s _ => Ev_now1 (fun k => by simp only [spec_SpcWithout.l0]; rw [if_neg (by omega)]; rfl)) l (Nat.le_refl _)
  rw [runL_fold] at h
  unfold spec_SpcWithout.f
  have l1 : ([] : List S70).length + l.length < 3518437208883 := by simp; omega
  simp only [Option.bind_some, if_pos l1, List.nil_append]
  exact h
theorem frItems_ev (l : List S70) (hl : l.length ≤ 1048576) : Ev (fun k => laws_frItems.f k l l) true := by
  have h := loop (fun k (_ : Unit) i => laws_frItems.l0 k l l i) l.length (fun _ _ => True) (fun r => r = true)
    (fun j s hj _ => .inl ⟨(), trivial, fun r hr => Ev_eq hr (fun k => by
      simp only [laws_frItems.l0]
      rw [if_pos (by omega), if_pos (by omega), if_pos (by omega), wrap_nat hj (by omega)]
      simp)⟩)
    (fun s _ => ⟨true, Ev_now1 (fun k => by simp only [laws_frItems.l0]; rw [if_neg (by omega)]), rfl⟩) () trivial
  obtain ⟨r, hr, rfl⟩ := h
  unfold laws_frItems.f
  simp only [if_true]
  exact hr
theorem frOk_is : laws_frOk.f = some true := by decide +kernel
theorem recs_loop {b : List Int} (hb : Code b) {N : Int} (hN : 1 ≤ N) (d : Nat) : ∀ (l : List S70) (p : Int), (l.length : Int) ≤ 40 - d → 0 ≤ p → p + d * 5 ≤ 999990000 → ∃ r : List S70 × Int, Ev (fun k => spec_l20Recs.l0 k N l (d : Int) b p) r ∧ (r.1.length ≤ 41 ∧ p ≤ r.2 ∧ r.2 ≤ p + d * 5 + 10) := by
  induction d with
  | zero =>
    intro l p hl hp0 hp1
    obtain ⟨v1, e1, a1, b1⟩ := pick_ev hb (p := p) (by omega) hN
    refine step_ex (f := fun k => _) (fun k => by simp only [spec_l20Recs.l0]; rfl) ?_
    refine ite_ex (fun h => absurd h (by omega)) (fun _ => bind_ex e1 (ite_ex (fun _ => ?_) (fun _ => ⟨_, Ev.now _, by simp only; omega⟩)))
    obtain ⟨x0, x1, x2, x3, x4, q1, e2, a2, b2⟩ := item_ev hb (p := p + 1) (by omega) (n := 2) (by omega)
    refine bind_ex e2 (ite_ex (fun _ => ⟨_, Ev.now _, ?_⟩) (fun h => absurd (show l.length < 3518437208883 by omega) h))
    simp only [List.length_append, List.length_cons, List.length_nil]
    omega
  | succ d ih =>
    intro l p hl hp0 hp1
    obtain ⟨x0, x1, x2, x3, x4, q1, e1, a1, b1⟩ := rec_ev hb (p := p) (by omega)
    obtain ⟨v2, e2, a2, b2⟩ := pick_ev hb (p := q1) (by omega) (n := 2) (by omega)
    have hw : wrap64 (((d + 1 : Nat) : Int) - 1) = (d : Int) := by rw [wrap_id (by omega) (by omega)]; omega
    obtain ⟨r, hr, c1, c2, c3⟩ := ih (l ++ [⟨x0, x1, v2, x3, x4⟩]) (q1 + 1) (by simp only [List.length_append, List.length_cons, List.length_nil]; omega) (by omega) (by omega)
    refine step_ex (f := fun k => _) (fun k => by simp only [spec_l20Recs.l0]; rfl) ?_
    refine ite_ex (fun _ => ?_) (fun h => absurd (show ((d + 1 : Nat) : Int) > 0 by omega) h)
    simp only [hw]
    refine bind_ex e1 (bind_ex e2 (ite_ex (fun _ => ⟨r, hr, c1, by omega, by omega⟩) (fun h => absurd (show l.length < 3518437208883 by omega) h)))
theorem recs_ev {b : List Int} (hb : Code b) {p : Int} (hp : 0 ≤ p ∧ p ≤ 999970000) : ∃ r : List S70 × Int, Ev (fun k => spec_l20Recs.f k b p 16) r ∧ (r.1.length ≤ 41 ∧ p ≤ r.2 ∧ r.2 ≤ p + 100) := by
  obtain ⟨v1, e1, a1, b1⟩ := pick_ev hb (p := p) (by omega) (n := 14) (by omega)
  obtain ⟨d, rfl⟩ := Int.eq_ofNat_of_zero_le a1
  obtain ⟨r, hr, c1, c2, c3⟩ := recs_loop hb (N := 16) (by omega) d [] (p + 1) (by simp; omega) (by omega) (by omega)
  unfold spec_l20Recs.f
  exact bind_ex e1 ⟨r, hr, c1, by omega, by omega⟩
theorem draw_loop {b : List Int} (hb : Code b) (l : List S70) (hl : l.length ≤ 41) (d : Nat) : ∀ (g : List S70) (j : Nat) (p : Int), j + d = l.length → g.length ≤ 41 + j → 0 ≤ p → p + d ≤ 999990000 → ∃ r : List S70 × List S70, Ev (fun k => spec_DrawSpcWithout.l0 k l g (j : Int) b p) r ∧ (r.1.length ≤ 41 ∧ r.2.length ≤ 82) := by
  induction d with
  | zero =>
    intro g j p hj hg hp0 hp1
    exact ⟨(l, g), Ev_now1 (fun k => by simp only [spec_DrawSpcWithout.l0]; rw [if_neg (by omega)]), hl, by simp only; omega⟩
  | succ d ih =>
    intro g j p hj hg hp0 hp1
    obtain ⟨v1, e1, a1, b1⟩ := pick_ev hb (p := p) (by omega) (n := 2) (by omega)
    have hw : wrap64 ((j : Int) + 1) = ((j + 1 : Nat) : Int) := by rw [wrap_id (by omega) (by omega)]; omega
    refine step_ex (f := fun k => _) (fun k => by simp only [spec_DrawSpcWithout.l0, hw]; rfl) ?_
    refine ite_ex (fun _ => bind_ex e1 (ite_ex (fun _ => ite_ex (fun _ => ite_ex (fun _ => ?_) (fun h => absurd (show g.length < 3518437208883 by omega) h)) (fun h => absurd (show (0 : Int) ≤ (j : Int) by omega) h)) (fun _ => ?_))) (fun h => absurd (show (j : Int) < (l.length : Int) by omega) h)
    · exact ih _ (j + 1) (p + 1) (by omega) (by simp only [List.length_append, List.length_cons, List.length_nil]; omega) (by omega) (by omega)
    · exact ih _ (j + 1) (p + 1) (by omega) (by omega) (by omega) (by omega)
theorem FnSpcWithout : laws_FnSpcWithout.Pure := by
  intro l _ _ hx
  apply Ev.rounds
  unfold laws_FnSpcWithout.f
  by_cases hl : (l.length : Int) > 1048576
  · simp only [if_pos hl]
    exact Ev.now _
  · simp only [if_neg hl]
    obtain ⟨b, ho, hb⟩ := open_ev (l := l) (by omega) hx
    obtain ⟨⟨u, q⟩, e1, c1, c2, c3⟩ := recs_ev hb (p := 0) (by omega)
    simp only at c1 c2 c3
    obtain ⟨⟨g0, q2⟩, e2, c4, c5, c6⟩ := recs_ev hb (p := q) (by omega)
    simp only at c4 c5 c6
    obtain ⟨⟨recs, gone⟩, e3, c7, c8⟩ := draw_loop hb u c1 u.length g0 0 q2 (by omega) (by omega) (by omega) (by omega)
    simp only at c7 c8
    have hd : Ev (fun k => spec_DrawSpcWithout.f k l) (recs, gone) := by
      unfold spec_DrawSpcWithout.f
      rw [ho]
      simp only [Option.bind_some]
      exact Ev.bind e1 (Ev.bind e2 e3)
    have k1 := wo_len gone recs
    have k2 := wo_len (wo recs gone) recs
    have len1 : (wo recs (wo recs gone)).length + (wo recs gone).length = recs.length := by
      rw [← List.length_append]
      refine List.Perm.length_eq (List.perm_iff_count.2 (fun a => ?_))
      rw [List.count_append, wo_count, wo_count]
      omega
    have nil_of : ∀ l : List S70, (∀ a, l.count a = 0) → l.length = 0 := fun l h => by
      cases l with
      | nil => rfl
      | cons x l =>
        have := h x
        simp at this
    have len2 : (wo (wo recs (wo recs gone)) gone).length = 0 := nil_of _ (fun a => by
      rw [wo_count, wo_count, wo_count]
      omega)
    have len3 : (wo recs recs).length = 0 := nil_of _ (fun a => by
      rw [wo_count]
      omega)
    refine Ev.bind hd ?_
    simp only
    refine Ev.bind (impl_without recs gone (by omega) (by omega)) (Ev.bind (spec_without recs gone (by omega) (by omega)) (Ev.bind (frItems_ev _ (by omega)) ?_))
    simp only [if_true]
    refine Ev.bind (impl_without recs (wo recs gone) (by omega) (by omega)) ?_
    simp only [wrap_id (show -9223372036854775808 ≤ ((wo recs (wo recs gone)).length : Int) + ((wo recs gone).length : Int) by omega) (by omega), if_pos (show ((wo recs (wo recs gone)).length : Int) + ((wo recs gone).length : Int) = (recs.length : Int) by omega)]
    refine Ev.bind (impl_without _ gone (by omega) (by omega)) ?_
    simp only [if_pos (show ((wo (wo recs (wo recs gone)) gone).length : Int) = 0 by omega)]
    refine Ev.bind (impl_without recs [] (by omega) (by simp)) ?_
    refine Ev.bind (show Ev (fun k => laws_frItems.f k (wo recs []) recs) true from frItems_ev recs (by omega)) ?_
    simp only [if_true]
    refine Ev.bind (impl_without recs recs (by omega) (by omega)) ?_
    simp only [if_pos (show ((wo recs recs).length : Int) = 0 by omega), frOk_is, Option.bind_some]
    exact Ev.now _

end Go.Proofs.Ytkmckalckafloaa.Pure
