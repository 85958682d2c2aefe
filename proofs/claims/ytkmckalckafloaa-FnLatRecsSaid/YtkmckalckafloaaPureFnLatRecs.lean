/- The law FnLatRecs over numbers and lists: the Lean function of it that was printed answers true. No condition but that each number is one of its kind. -/
import Derived.Test.YtkmckalckafloaaQFnLatRecsx7
import Derived.Test.YtkmckalckafloaaVFnLatRecsAid
set_option linter.unusedVariables false
set_option linter.unusedSimpArgs false
namespace Go.Proofs.Ytkmckalckafloaa.Pure
open Go.RowKit Go.Proofs.Ytkmckalckafloaa.PFnLatRecs Go.Proofs.YtkmckalckafloaaW.PrintWords Go.Proofs.YtkmckalckafloaaW.PrintLast Go.Proofs.Ytkmckalckafloaa.Aid

theorem rd75_at (l : List S75) (j : Nat) (h : j < l.length) : rd_T75 l (j : Int) = l[j] := by simp [rd_T75, List.getD_eq_getElem?_getD, h]
theorem rd70_at (l : List S70) (j : Nat) (h : j < l.length) : rd_T70 l (j : Int) = l[j] := by simp [rd_T70, List.getD_eq_getElem?_getD, h]
/-- A code that may be read: bytes, not too many. -/
def Code (b : List Int) : Prop := b.length ≤ 2000 ∧ ∀ x ∈ b, 0 ≤ x ∧ x ≤ 255
theorem code_rd {b : List Int} (hb : Code b) (i : Int) : 0 ≤ rd b i ∧ rd b i ≤ 255 := by
  unfold rd
  rw [List.getD_eq_getElem?_getD]
  rcases Nat.lt_or_ge i.toNat b.length with h | h
  · rw [List.getElem?_eq_getElem h]
    exact hb.2 _ (List.getElem_mem h)
  · rw [List.getElem?_eq_none h]
    exact ⟨Int.le_refl _, by decide⟩
theorem xor_pos (x y : Int) (hx : 0 ≤ x ∧ x < 4611686018427387904) (hy : 0 ≤ y ∧ y < 4611686018427387904) : 0 ≤ Go.bits .xor .i64 x y := by
  obtain ⟨a, rfl⟩ := Int.eq_ofNat_of_zero_le hx.1
  obtain ⟨b, rfl⟩ := Int.eq_ofNat_of_zero_le hy.1
  have ha : a < 2 ^ 62 := by omega
  have hb : b < 2 ^ 62 := by omega
  have ha' : a % 2 ^ IntKind.i64.bits = a := Nat.mod_eq_of_lt (Nat.lt_of_lt_of_le ha (by decide))
  have hb' : b % 2 ^ IntKind.i64.bits = b := Nat.mod_eq_of_lt (Nat.lt_of_lt_of_le hb (by decide))
  have hxr : a ^^^ b < 2 ^ 62 := Nat.xor_lt_two_pow ha hb
  simp only [Go.bits, BitVec.ofInt_natCast, BitVec.toNat_xor, BitVec.toNat_ofNat, ha', hb']
  rw [IntKind.wrap_i64]
  have : ((a ^^^ b : Nat) : Int) < 2 ^ 62 := by exact_mod_cast hxr
  omega
theorem tmod_in (x n : Int) (hx : 0 ≤ x) (hn : 1 ≤ n) : 0 ≤ Int.tmod x n ∧ Int.tmod x n < n :=
  ⟨Int.tmod_nonneg _ hx, Int.tmod_lt_of_pos _ (by omega)⟩
theorem pick_ev {b : List Int} (hb : Code b) {p : Int} (hp : 0 ≤ p ∧ p ≤ 1000000000) {n : Int} (hn : 1 ≤ n) : ∃ v, Ev (fun k => spec_l20Rd_pick.f k b p n) (v, p + 1) ∧ 0 ≤ v ∧ v < n := by
  have hl := hb.1
  have hw : wrap64 (p + 1) = p + 1 := wrap_id (by omega) (by omega)
  have hw2 : wrap64 (p + 1 - 1) = p := by rw [wrap_id (by omega) (by omega)]; omega
  have e0 : ∀ k, spec_l20Rd_pick.f k b p n = spec_l20Rd_pick.j0 k n ((b.length : Int) == 0) b (p + 1) := fun k => by
    unfold spec_l20Rd_pick.f
    rw [if_neg (by omega), hw]
  by_cases hz : b.length = 0
  · refine ⟨0, Ev.congr e0 (Ev_now1 (fun k => ?_)), by omega, by omega⟩
    simp only [spec_l20Rd_pick.j0]
    rw [if_pos (by simp [hz])]
  · have hz' : ((b.length : Int) == 0) = false := by simpa using hz
    have hlp : (1 : Int) ≤ (b.length : Int) := by omega
    rw [hz'] at e0
    by_cases h1 : p < (b.length : Int)
    · have hr := code_rd hb p
      have hwr : wrap64 (rd b p) = rd b p := wrap_id (by omega) (by omega)
      obtain ⟨t0, t1⟩ := tmod_in (rd b p) n hr.1 hn
      refine ⟨Int.tmod (rd b p) n, Ev.congr e0 (Ev_now1 (fun k => ?_)), t0, t1⟩
      simp only [spec_l20Rd_pick.j0]
      rw [if_neg (by simp), hw2, if_pos h1, if_pos hp.1, if_neg (by omega), hwr]
    · obtain ⟨t0, t1⟩ := tmod_in p (b.length : Int) hp.1 hlp
      have w7 : wrap64 (p * 7) = p * 7 := wrap_id (by omega) (by omega)
      have w73 : wrap64 (p * 7 + 3) = p * 7 + 3 := wrap_id (by omega) (by omega)
      obtain ⟨s0, s1⟩ := tmod_in (p * 7 + 3) (b.length : Int) (by omega) hlp
      have ra := code_rd hb (Int.tmod p (b.length : Int))
      have rb := code_rd hb (Int.tmod (p * 7 + 3) (b.length : Int))
      have hd0 : 0 ≤ Int.tdiv p (b.length : Int) := Int.tdiv_nonneg hp.1 (by omega)
      have hd1 : Int.tdiv p (b.length : Int) ≤ p := by
        rw [Int.tdiv_eq_ediv_of_nonneg hp.1]
        exact Int.ediv_le_self _ hp.1
      generalize hA : rd b (Int.tmod p (b.length : Int)) = A at ra
      generalize hB : rd b (Int.tmod (p * 7 + 3) (b.length : Int)) = B at rb
      generalize hD : Int.tdiv p (b.length : Int) = D at hd0 hd1
      have v1 : wrap64 A = A := wrap_id (by omega) (by omega)
      have v2 : wrap64 (A * 131) = A * 131 := wrap_id (by omega) (by omega)
      have v3 : wrap64 B = B := wrap_id (by omega) (by omega)
      have v4 : wrap64 (B * 1117) = B * 1117 := wrap_id (by omega) (by omega)
      have v5 : wrap64 (A * 131 + B * 1117) = A * 131 + B * 1117 := wrap_id (by omega) (by omega)
      have v6 : wrap64 (p * 29) = p * 29 := wrap_id (by omega) (by omega)
      have v7 : wrap64 (A * 131 + B * 1117 + p * 29) = A * 131 + B * 1117 + p * 29 := wrap_id (by omega) (by omega)
      have v8 : wrap64 D = D := wrap_id (by omega) (by omega)
      have v9 : wrap64 (D * 53) = D * 53 := wrap_id (by omega) (by omega)
      have v10 : wrap64 (A * 131 + B * 1117 + p * 29 + D * 53) = A * 131 + B * 1117 + p * 29 + D * 53 := wrap_id (by omega) (by omega)
      have hx0 : 0 ≤ A * 131 + B * 1117 + p * 29 + D * 53 ∧ A * 131 + B * 1117 + p * 29 + D * 53 < 4611686018427387904 := by omega
      generalize hX : A * 131 + B * 1117 + p * 29 + D * 53 = X at v10 hx0
      have hq0 : 0 ≤ Int.tdiv X 64 := Int.tdiv_nonneg hx0.1 (by omega)
      have hq1 : Int.tdiv X 64 ≤ X := by
        rw [Int.tdiv_eq_ediv_of_nonneg hx0.1]
        omega
      have v11 : wrap64 (Int.tdiv X 64) = Int.tdiv X 64 := wrap_id (by omega) (by omega)
      have hxor := xor_pos X (Int.tdiv X 64) hx0 ⟨hq0, by omega⟩
      obtain ⟨u0, u1⟩ := tmod_in _ n hxor hn
      refine ⟨Int.tmod (Go.bits .xor .i64 X (Int.tdiv X 64)) n, Ev.congr e0 (Ev_now1 (fun k => ?_)), u0, u1⟩
      simp only [spec_l20Rd_pick.j0]
      rw [if_neg (by simp), hw2, if_neg h1, if_neg (by omega), if_pos t0, if_pos t1]
      simp only [w7, w73]
      rw [if_pos s0, if_pos s1, if_neg (by omega)]
      simp only [hA, hB, hD, v1, v2, v3, v4, v5, v6, v7, v8, v9, v10, hX, v11]
theorem open_ev {l : List Int} (hl : l.length ≤ 1048576) (hb : ∀ x ∈ l, (Lit.int .u8 x).wf = true) : ∃ b, spec_l20Open.f l = some (b, 0) ∧ Code b := by
  have hx : ∀ x ∈ l, 0 ≤ x ∧ x ≤ 255 := fun x h => by
    have := hb x h
    simp only [Lit.wf, Bool.and_eq_true, decide_eq_true_eq] at this
    have a : IntKind.u8.min = 0 := by decide
    have b : IntKind.u8.max = 255 := by decide
    omega
  unfold spec_l20Open.f
  by_cases h : (l.length : Int) > 2000
  · rw [if_pos h, if_pos (by omega)]
    exact ⟨_, rfl, by simp; omega, fun x hm => hx x (List.mem_of_mem_take hm)⟩
  · rw [if_neg h]
    exact ⟨_, rfl, by omega, hx⟩
theorem rdlit (xs : List Int) (i : Int) (h0 : 0 ≤ i) (h1 : i < (xs.length : Int)) : rd xs i ∈ xs := by
  unfold rd
  have h : i.toNat < xs.length := by omega
  rw [List.getD_eq_getElem?_getD, List.getElem?_eq_getElem h]
  exact List.getElem_mem h
theorem win_ev {b : List Int} (hb : Code b) {p : Int} (hp : 0 ≤ p ∧ p ≤ 999999900) {n : Int} (hn : 1 ≤ n) : ∃ s e q, Ev (fun k => spec_l20Win.f k b p n) (s, e, q) ∧ p ≤ q ∧ q ≤ p + 6 := by
  obtain ⟨v1, e1, a1, b1⟩ := pick_ev hb (p := p) (by omega) (n := 40) (by omega)
  obtain ⟨v2, e2, a2, b2⟩ := pick_ev hb (p := p + 1) (by omega) (n := 5) (by omega)
  obtain ⟨v3, e3, a3, b3⟩ := pick_ev hb (p := p + 1 + 1) (by omega) (n := 4) (by omega)
  obtain ⟨v4, e4, a4, b4⟩ := pick_ev hb (p := p + 1 + 1 + 1) (by omega) (n := n) hn
  have l1 : v2 < (([0, 5, 20, 60, v1] : List Int).length : Int) := by simpa using b2
  have l2 : v3 < (([1, 5, 10, 20] : List Int).length : Int) := by simpa using b3
  by_cases h : v4 = 0
  · obtain ⟨v5, e5, a5, b5⟩ := pick_ev hb (p := p + 1 + 1 + 1 + 1) (by omega) (n := 2) (by omega)
    by_cases h5 : v5 = 0
    · obtain ⟨v6, e6, a6, b6⟩ := pick_ev hb (p := p + 1 + 1 + 1 + 1 + 1) (by omega) (n := 3) (by omega)
      refine ⟨?_, ?_, ?_, ?e, ?_, ?_⟩
      case e =>
        unfold spec_l20Win.f
        refine Ev.bind e1 ?_
        simp only [Option.bind_some]
        refine Ev.bind e2 ?_
        simp only [if_pos a2, if_pos l1]
        refine Ev.bind e3 ?_
        simp only [if_pos a3, if_pos l2]
        refine Ev.bind e4 ?_
        simp only [if_pos h]
        refine Ev.bind e5 ?_
        simp only [if_pos h5]
        refine Ev.bind e6 ?_
        simp only [if_pos a6]
        rw [if_pos (by simpa using b6)]
        exact Ev.now _
      all_goals omega
    · obtain ⟨v6, e6, a6, b6⟩ := pick_ev hb (p := p + 1 + 1 + 1 + 1 + 1) (by omega) (n := 4) (by omega)
      refine ⟨?_, ?_, ?_, ?e, ?_, ?_⟩
      case e =>
        unfold spec_l20Win.f
        refine Ev.bind e1 ?_
        simp only [Option.bind_some]
        refine Ev.bind e2 ?_
        simp only [if_pos a2, if_pos l1]
        refine Ev.bind e3 ?_
        simp only [if_pos a3, if_pos l2]
        refine Ev.bind e4 ?_
        simp only [if_pos h]
        refine Ev.bind e5 ?_
        simp only [if_neg h5]
        refine Ev.bind e6 ?_
        simp only [if_pos a6]
        rw [if_pos (by simpa using b6)]
        exact Ev.now _
      all_goals omega
  · refine ⟨?_, ?_, ?_, ?e, ?_, ?_⟩
    case e =>
      unfold spec_l20Win.f
      refine Ev.bind e1 ?_
      simp only [Option.bind_some]
      refine Ev.bind e2 ?_
      simp only [if_pos a2, if_pos l1]
      refine Ev.bind e3 ?_
      simp only [if_pos a3, if_pos l2]
      refine Ev.bind e4 ?_
      simp only [if_neg h]
      exact Ev.now _
    all_goals omega
theorem rec_ev {b : List Int} (hb : Code b) {p : Int} (hp : 0 ≤ p ∧ p ≤ 999999900) : ∃ x0 x1 x2 x3 x4 q, Ev (fun k => spec_l20Rec.f k b p) (x0, x1, x2, x3, x4, q) ∧ p ≤ q ∧ q ≤ p + 4 := by
  obtain ⟨v1, e1, a1, b1⟩ := pick_ev hb (p := p) (by omega) (n := 61) (by omega)
  obtain ⟨v2, e2, a2, b2⟩ := pick_ev hb (p := p + 1) (by omega) (n := 6) (by omega)
  obtain ⟨v3, e3, a3, b3⟩ := pick_ev hb (p := p + 1 + 1) (by omega) (n := 4) (by omega)
  obtain ⟨v4, e4, a4, b4⟩ := pick_ev hb (p := p + 1 + 1 + 1) (by omega) (n := 19) (by omega)
  have l1 : v2 < (([0, 1, 5, 20, 60, v1] : List Int).length : Int) := by simpa using b2
  refine ⟨?_, ?_, ?_, ?_, ?_, ?_, ?e, ?_, ?_⟩
  case e =>
    unfold spec_l20Rec.f
    refine Ev.bind e1 ?_
    simp only [Option.bind_some]
    refine Ev.bind e2 ?_
    simp only [if_pos a2, if_pos l1]
    refine Ev.bind e3 (Ev.bind e4 ?_)
    exact Ev.now _
  all_goals omega
theorem itemj_ev {b : List Int} (hb : Code b) {p : Int} (hp : 0 ≤ p ∧ p ≤ 999999900) {n : Int} (hn : 1 ≤ n) (y0 y1 y2 y3 y4 : Int) : ∃ x0 x1 x2 x3 x4 q, Ev (fun k => spec_l20Item.j0 k n b p y0 y1 y2 y3 y4) (x0, x1, x2, x3, x4, q) ∧ p ≤ q ∧ q ≤ p + 3 := by
  obtain ⟨v1, e1, a1, b1⟩ := pick_ev hb (p := p) (by omega) (n := n) hn
  by_cases h1 : v1 > 0
  · refine ⟨?_, ?_, ?_, ?_, ?_, ?_, Ev.step (fun k => by simp only [spec_l20Item.j0]; rfl) (Ev.bind e1 ?e), ?_, ?_⟩
    case e =>
      simp only [if_pos h1]
      exact Ev.now _
    all_goals omega
  · obtain ⟨v2, e2, a2, b2⟩ := pick_ev hb (p := p + 1) (by omega) (n := 7) (by omega)
    obtain ⟨v3, e3, a3, b3⟩ := pick_ev hb (p := p + 1 + 1) (by omega) (n := 5) (by omega)
    have l1 : v2 < (([(-1), 0, 61, 4, 10, 1000, 901] : List Int).length : Int) := by simpa using b2
    by_cases c0 : v3 = 0
    · refine ⟨?_, ?_, ?_, ?_, ?_, ?_, Ev.step (fun k => by simp only [spec_l20Item.j0]; rfl) (Ev.bind e1 ?e), ?_, ?_⟩
      case e =>
        simp only [if_neg h1, Option.bind_some]
        refine Ev.bind e2 ?_
        simp only [if_pos a2, if_pos l1]
        refine Ev.bind e3 ?_
        simp only [if_pos c0]
        exact Ev.now _
      all_goals omega
    by_cases c1 : v3 = 1
    · refine ⟨?_, ?_, ?_, ?_, ?_, ?_, Ev.step (fun k => by simp only [spec_l20Item.j0]; rfl) (Ev.bind e1 ?e), ?_, ?_⟩
      case e =>
        simp only [if_neg h1, Option.bind_some]
        refine Ev.bind e2 ?_
        simp only [if_pos a2, if_pos l1]
        refine Ev.bind e3 ?_
        simp only [if_neg c0, if_pos c1]
        exact Ev.now _
      all_goals omega
    by_cases c2 : v3 = 2
    · refine ⟨?_, ?_, ?_, ?_, ?_, ?_, Ev.step (fun k => by simp only [spec_l20Item.j0]; rfl) (Ev.bind e1 ?e), ?_, ?_⟩
      case e =>
        simp only [if_neg h1, Option.bind_some]
        refine Ev.bind e2 ?_
        simp only [if_pos a2, if_pos l1]
        refine Ev.bind e3 ?_
        simp only [if_neg c0, if_neg c1, if_pos c2]
        exact Ev.now _
      all_goals omega
    by_cases c3 : v3 = 3
    · refine ⟨?_, ?_, ?_, ?_, ?_, ?_, Ev.step (fun k => by simp only [spec_l20Item.j0]; rfl) (Ev.bind e1 ?e), ?_, ?_⟩
      case e =>
        simp only [if_neg h1, Option.bind_some]
        refine Ev.bind e2 ?_
        simp only [if_pos a2, if_pos l1]
        refine Ev.bind e3 ?_
        simp only [if_neg c0, if_neg c1, if_neg c2, if_pos c3]
        exact Ev.now _
      all_goals omega
    · refine ⟨?_, ?_, ?_, ?_, ?_, ?_, Ev.step (fun k => by simp only [spec_l20Item.j0]; rfl) (Ev.bind e1 ?e), ?_, ?_⟩
      case e =>
        simp only [if_neg h1, Option.bind_some]
        refine Ev.bind e2 ?_
        simp only [if_pos a2, if_pos l1]
        refine Ev.bind e3 ?_
        simp only [if_neg c0, if_neg c1, if_neg c2, if_neg c3]
        exact Ev.now _
      all_goals omega
theorem item_ev {b : List Int} (hb : Code b) {p : Int} (hp : 0 ≤ p ∧ p ≤ 999999800) {n : Int} (hn : 1 ≤ n) : ∃ x0 x1 x2 x3 x4 q, Ev (fun k => spec_l20Item.f k b p n) (x0, x1, x2, x3, x4, q) ∧ p ≤ q ∧ q ≤ p + 9 := by
  obtain ⟨y0, y1, y2, y3, y4, q1, e1, a1, b1⟩ := rec_ev hb (p := p) (by omega)
  obtain ⟨v2, e2, a2, b2⟩ := pick_ev hb (p := q1) (by omega) (n := 4) (by omega)
  by_cases h0 : v2 = 0
  · obtain ⟨v3, e3, a3, b3⟩ := pick_ev hb (p := q1 + 1) (by omega) (n := 4) (by omega)
    have l1 : v3 < (([1, 10, 60, 1000] : List Int).length : Int) := by simpa using b3
    obtain ⟨x0, x1, x2, x3, x4, q, e4, a4, b4⟩ := itemj_ev hb (p := q1 + 1 + 1) (by omega) hn 2 (rd [1, 10, 60, 1000] v3) 0 0 0
    refine ⟨x0, x1, x2, x3, x4, q, ?_, by omega, by omega⟩
    unfold spec_l20Item.f
    refine Ev.bind e1 (Ev.bind e2 ?_)
    simp only [if_pos h0, Option.bind_some]
    refine Ev.bind e3 ?_
    simp only [if_pos a3, if_pos l1]
    exact e4
  by_cases h1 : v2 = 1
  · obtain ⟨v3, e3, a3, b3⟩ := pick_ev hb (p := q1 + 1) (by omega) (n := 3) (by omega)
    have l1 : v3 < (([1, 2, 900] : List Int).length : Int) := by simpa using b3
    obtain ⟨x0, x1, x2, x3, x4, q, e4, a4, b4⟩ := itemj_ev hb (p := q1 + 1 + 1) (by omega) hn 3 0 0 0 (rd [1, 2, 900] v3)
    refine ⟨x0, x1, x2, x3, x4, q, ?_, by omega, by omega⟩
    unfold spec_l20Item.f
    refine Ev.bind e1 (Ev.bind e2 ?_)
    simp only [if_neg h0, if_pos h1, Option.bind_some]
    refine Ev.bind e3 ?_
    simp only [if_pos a3, if_pos l1]
    exact e4
  · obtain ⟨x0, x1, x2, x3, x4, q, e4, a4, b4⟩ := itemj_ev hb (p := q1 + 1) (by omega) hn y0 y1 y2 y3 y4
    refine ⟨x0, x1, x2, x3, x4, q, ?_, by omega, by omega⟩
    unfold spec_l20Item.f
    refine Ev.bind e1 (Ev.bind e2 ?_)
    simp only [if_neg h0, if_neg h1]
    exact e4
theorem late_ev {b : List Int} (hb : Code b) {p : Int} (hp : 0 ≤ p ∧ p ≤ 999999700) {n : Int} (hn : 1 ≤ n) : ∃ x0 x1 x2 x3 x4 x5 x6 q, Ev (fun k => spec_l20Late.f k b p n) (x0, x1, x2, x3, x4, x5, x6, q) ∧ p ≤ q ∧ q ≤ p + 20 := by
  obtain ⟨y0, y1, y2, y3, y4, q1, e1, a1, b1⟩ := rec_ev hb (p := p) (by omega)
  obtain ⟨v2, e2, a2, b2⟩ := pick_ev hb (p := q1) (by omega) (n := n) hn
  by_cases h0 : v2 = 0
  · obtain ⟨v3, e3, a3, b3⟩ := pick_ev hb (p := q1 + 1) (by omega) (n := 2) (by omega)
    by_cases h1 : v3 = 0
    · obtain ⟨x0, x1, x2, x3, x4, q, e4, a4, b4⟩ := item_ev hb (p := q1 + 1 + 1) (by omega) (n := 2) (by omega)
      refine ⟨?_, ?_, ?_, ?_, ?_, ?_, ?_, ?_, ?e, ?_, ?_⟩
      case e =>
        unfold spec_l20Late.f
        refine Ev.bind e1 (Ev.bind e2 ?_)
        simp only [if_pos h0]
        refine Ev.bind e3 ?_
        simp only [if_pos h1]
        refine Ev.bind e4 ?_
        exact Ev.now _
      all_goals first | omega | (simp only; omega)
    · obtain ⟨s, t, q, e4, a4, b4⟩ := win_ev hb (p := q1 + 1 + 1) (by omega) (n := 2) (by omega)
      refine ⟨?_, ?_, ?_, ?_, ?_, ?_, ?_, ?_, ?e, ?_, ?_⟩
      case e =>
        unfold spec_l20Late.f
        refine Ev.bind e1 (Ev.bind e2 ?_)
        simp only [if_pos h0]
        refine Ev.bind e3 ?_
        simp only [if_neg h1]
        refine Ev.bind e4 ?_
        exact Ev.now _
      all_goals first | omega | (simp only; omega)
  · refine ⟨?_, ?_, ?_, ?_, ?_, ?_, ?_, ?_, ?e, ?_, ?_⟩
    case e =>
      unfold spec_l20Late.f
      refine Ev.bind e1 (Ev.bind e2 ?_)
      simp only [if_neg h0]
      exact Ev.now _
    all_goals first | omega | (simp only; omega)
theorem l1In_is (a b c : Int) : spec_l1In.f a b c = some (decide (b ≤ a ∧ a ≤ c)) := by
  unfold spec_l1In.f
  by_cases h : a ≥ b
  · have h' : b ≤ a := h
    simp [h, h']
  · have h' : ¬ b ≤ a := h
    simp [h']
theorem in_is (a b c : Int) : impl_in.f a b c = some (decide (b ≤ a ∧ a ≤ c)) := l1In_is a b c
theorem itmOk_eq : impl_ItmOk.f = spec_ItmOk.f := rfl
theorem itmOk_tot (a b c d e : Int) : ∃ r, spec_ItmOk.f a b c d e = some r := by
  unfold spec_ItmOk.f
  simp only [l1In_is, Option.bind_some]
  repeat' split
  all_goals exact ⟨_, rfl⟩
theorem latOk_eq : impl_LatOk.f = spec_LatOk.f := by
  funext a b c d e f g
  unfold impl_LatOk.f spec_LatOk.f impl_isRec.f
  by_cases h : a = 1
  · rw [if_pos h, if_pos h]
    obtain ⟨r, hr⟩ := itmOk_tot a b c d e
    rw [itmOk_eq, hr]
    rfl
  · rw [if_neg h, if_neg h]
    rfl
theorem latOk_tot (a b c d e f g : Int) : ∃ r, spec_LatOk.f a b c d e f g = some r := by
  unfold spec_LatOk.f spec_WinOk.f
  obtain ⟨r, hr⟩ := itmOk_tot a b c d e
  simp only [l1In_is, hr, Option.bind_some]
  by_cases h1 : a = 1
  · rw [if_pos h1]
    cases r with
    | false => exact ⟨_, rfl⟩
    | true =>
      simp only [if_true]
      by_cases h2 : 0 ≤ f ∧ f ≤ 60
      · rw [decide_eq_true h2]
        simp only [if_true, Option.bind_some]
        split <;> exact ⟨_, rfl⟩
      · rw [decide_eq_false h2]
        exact ⟨_, rfl⟩
  · rw [if_neg h1]
    exact ⟨_, rfl⟩
theorem latOk_in {a b c d e f g : Int} (h : spec_LatOk.f a b c d e f g = some true) : f ≤ b ∧ b < g := by
  unfold spec_LatOk.f spec_WinOk.f at h
  obtain ⟨r, hr⟩ := itmOk_tot a b c d e
  simp only [l1In_is, hr, Option.bind_some] at h
  by_cases h1 : a = 1
  · rw [if_pos h1] at h
    cases r with
    | false => simp at h
    | true =>
      simp only [if_true] at h
      by_cases h2 : 0 ≤ f ∧ f ≤ 60
      · rw [decide_eq_true h2] at h
        simp only [if_true, Option.bind_some] at h
        rw [wrap_id (x := f + 1) (by omega) (by omega)] at h
        by_cases h3 : f + 1 ≤ g ∧ g ≤ 120
        · rw [decide_eq_true h3] at h
          simp only [if_true] at h
          rw [wrap_id (x := g - 1) (by omega) (by omega)] at h
          have := of_decide_eq_true (Option.some.inj h)
          omega
        · rw [decide_eq_false h3] at h
          simp at h
      · rw [decide_eq_false h2] at h
        simp at h
  · rw [if_neg h1] at h
    simp at h
theorem recs_spec (l : List S75) (hl : l.length ≤ 1048576) : Ev (fun k => spec_LatRecs.f k l) (l.map fun x => x.f0) := by
  have h := loop (fun k s i => spec_LatRecs.l0 k l s i) l.length (fun j s => s.length ≤ j ∧ s = (l.take j).map fun x => x.f0) (fun r => r = l.map fun x => x.f0)
    (fun j s hj hi => by
      obtain ⟨h1, h2⟩ := hi
      refine .inl ⟨s ++ [l[j].f0], ⟨by simp; omega, by rw [List.take_succ_eq_append_getElem hj, List.map_append, h2]; rfl⟩, fun r hr => Ev_eq hr (fun k => ?_)⟩
      simp only [spec_LatRecs.l0]
      rw [if_pos (by omega), if_pos (by omega), rd75_at l j hj, wrap_nat hj (by omega), if_pos (by omega)])
    (fun s hs => ⟨s, Ev_now1 (fun k => by simp only [spec_LatRecs.l0]; rw [if_neg (by omega)]), by rw [hs.2, List.take_length]⟩) [] ⟨by simp, by simp⟩
  obtain ⟨r, hr, rfl⟩ := h
  exact hr
theorem recs_impl (l : List S75) (hl : l.length ≤ 1048576) : Ev (fun k => impl_LatRecs.f k l) (l.map fun x => x.f0) := by
  have h := loop (fun k s i => impl_LatRecs.l0 k s l (l.length : Int) i) l.length (fun j s => s.length ≤ j ∧ s = (l.take j).map fun x => x.f0) (fun r => r = l.map fun x => x.f0)
    (fun j s hj hi => by
      obtain ⟨h1, h2⟩ := hi
      refine .inl ⟨s ++ [l[j].f0], ⟨by simp; omega, by rw [List.take_succ_eq_append_getElem hj, List.map_append, h2]; rfl⟩, fun r hr => Ev_eq hr (fun k => ?_)⟩
      simp only [impl_LatRecs.l0]
      rw [if_pos (by omega), if_pos (by omega), if_pos (by omega), rd75_at l j hj, wrap_nat hj (by omega), if_pos (by omega)])
    (fun s hs => ⟨s, Ev_now1 (fun k => by simp only [impl_LatRecs.l0]; rw [if_neg (by omega)]), by rw [hs.2, List.take_length]⟩) [] ⟨by simp, by simp⟩
  obtain ⟨r, hr, rfl⟩ := h
  exact hr
theorem lats_loop {b : List Int} (hb : Code b) (d : Nat) : ∀ (l : List S75) (i p : Int), i = d → (l.length : Int) + i ≤ 5 → 0 ≤ p → p + i * 20 ≤ 999990000 → ∃ r : List S75, Ev (fun k => spec_DrawLatRecs.l0 k l i b p) r ∧ r.length ≤ 5 := by
  induction d with
  | zero =>
    intro l i p hi hl _ _
    exact ⟨l, Ev_now1 (fun k => by simp only [spec_DrawLatRecs.l0]; rw [if_neg (by omega)]), by omega⟩
  | succ d ih =>
    intro l i p hi hl hp0 hp1
    obtain ⟨x0, x1, x2, x3, x4, x5, x6, q, e1, a1, b1⟩ := late_ev hb (p := p) (by omega) (n := 8) (by omega)
    obtain ⟨r, hr, hr1⟩ := ih (l ++ [⟨⟨x0, x1, x2, x3, x4⟩, ⟨x5, x6⟩⟩]) (i - 1) q (by omega) (by simp; omega) (by omega) (by omega)
    refine ⟨r, Ev.step (fun k => by simp only [spec_DrawLatRecs.l0]; rw [if_pos (by omega)]) (Ev.bind e1 ?_), hr1⟩
    simp only
    rw [wrap_id (x := i - 1) (by omega) (by omega)]
    refine Ev.congr (fun k => if_pos (by omega)) hr
theorem frItems_ev (l : List S70) (hl : l.length ≤ 1048576) : Ev (fun k => laws_frItems.f k l l) true := by
  have h := loop (fun k (_ : Unit) i => laws_frItems.l0 k l l i) l.length (fun _ _ => True) (fun r => r = true)
    (fun j s hj _ => .inl ⟨(), trivial, fun r hr => Ev_eq hr (fun k => by
      simp only [laws_frItems.l0]
      rw [if_pos (by omega), if_pos (by omega), if_pos (by omega), wrap_nat hj (by omega)]
      simp)⟩)
    (fun s _ => ⟨true, Ev_now1 (fun k => by simp only [laws_frItems.l0]; rw [if_neg (by omega)]), rfl⟩) () trivial
  obtain ⟨r, hr, rfl⟩ := h
  unfold laws_frItems.f
  simp only [if_true]
  exact hr

theorem FnLatRecs : laws_FnLatRecs.Pure := by
  intro l _ _ hx
  apply Ev.rounds
  unfold laws_FnLatRecs.f
  by_cases hl : (l.length : Int) > 1048576
  · simp only [if_pos hl]
    exact Ev.now _
  · simp only [if_neg hl]
    obtain ⟨b, ho, hb⟩ := open_ev (l := l) (by omega) hx
    obtain ⟨v, e1, c1, c2⟩ := pick_ev hb (p := 0) (by omega) (n := 5) (by omega)
    obtain ⟨r, e2, hr⟩ := lats_loop hb v.toNat [] v (0 + 1) (by omega) (by simp; omega) (by omega) (by omega)
    have hd : Ev (fun k => spec_DrawLatRecs.f k l) r := by
      unfold spec_DrawLatRecs.f
      rw [ho]
      simp only [Option.bind_some]
      exact Ev.bind e1 e2
    have hm : (r.map fun x => x.f0).length ≤ 1048576 := by simp; omega
    refine Ev.bind hd (Ev.bind (recs_impl r (by omega)) (Ev.bind (recs_spec r (by omega)) (Ev.bind (frItems_ev _ hm) ?_)))
    simp only [if_true]
    have hs := loop (fun k (_ : Unit) i => laws_FnLatRecs.l0 k r (r.map fun x => x.f0) i) r.length (fun _ _ => True) (fun z => z = true)
      (fun j s hj _ => by
        refine .inl ⟨(), trivial, fun z hz => Ev_eq hz (fun k => ?_)⟩
        simp only [laws_FnLatRecs.l0]
        rw [if_pos (by omega), if_pos (by omega), if_pos (by simp; omega), wrap_nat hj (by omega), rd75_at r j hj, rd70_at (r.map fun x => x.f0) j (by simpa using hj), List.getElem_map]
        generalize r[j] = y
        obtain ⟨t, ht⟩ := latOk_tot y.f0.f0 y.f0.f1 y.f0.f2 y.f0.f3 y.f0.f4 y.f1.f0 y.f1.f1
        simp only [beq_self_eq_true, Bool.not_true, Bool.or_self, Bool.false_eq_true, if_false, latOk_eq, ht, Option.bind_some, bne_self_eq_false]
        cases t with
        | false => simp only [Bool.false_eq_true, if_false]
        | true =>
          have := latOk_in ht
          simp only [if_true]
          rw [if_neg (by omega), if_neg (by omega)])
      (fun s _ => ⟨true, Ev_now1 (fun k => by
        simp only [laws_FnLatRecs.l0]
        rw [if_neg (by omega)]
        have : impl_LatOk.f 1 0 0 0 0 0 1 = some true := by decide +kernel
        rw [this]
        rfl), rfl⟩) () trivial
    obtain ⟨z, hz, rfl⟩ := hs
    refine Ev_eq hz (fun k => ?_)
    simp only [laws_FnLatRecs.j0]
    rw [if_neg (by simp)]

end Go.Proofs.Ytkmckalckafloaa.Pure
