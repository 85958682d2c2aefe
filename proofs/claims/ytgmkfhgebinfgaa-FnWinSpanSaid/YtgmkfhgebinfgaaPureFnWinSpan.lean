/- The law FnWinSpan over numbers and lists: the Lean function of it that was printed answers true. No condition but that each number is one of its kind. -/
import Derived.Test.YtgmkfhgebinfgaaQFnWinSpanx5
import Derived.Test.YtgmkfhgebinfgaaAid
set_option linter.unusedVariables false
set_option linter.unusedSimpArgs false
namespace Go.Proofs.Ytgmkfhgebinfgaa.Pure
open Go.RowKit Go.Proofs.Ytgmkfhgebinfgaa.PFnWinSpan Go.Proofs.YtgmkfhgebinfgaaW.PrintWords Go.Proofs.YtgmkfhgebinfgaaW.PrintLast Go.Proofs.Ytgmkfhgebinfgaa.Aid

/-- A code that may be read: bytes, not too many. -/
def Code (b : List Int) : Prop := b.length ≤ 2000 ∧ ∀ x ∈ b, 0 ≤ x ∧ x ≤ 255
theorem code_rd {b : List Int} (hb : Code b) (i : Int) : 0 ≤ rd b i ∧ rd b i ≤ 255 := by
  unfold rd
  rw [List.getD_eq_getElem?_getD]
  rcases Nat.lt_or_ge i.toNat b.length with h | h
  · rw [List.getElem?_eq_getElem h]
    exact hb.2 _ (List.getElem_mem h)
  · rw [List.getElem?_eq_none h]
    exact ⟨Int.le_refl _, by decide⟩
theorem xor_pos (x y : Int) (hx : 0 ≤ x ∧ x < 4611686018427387904) (hy : 0 ≤ y ∧ y < 4611686018427387904) : 0 ≤ Go.bits .xor .i64 x y := by
  obtain ⟨a, rfl⟩ := Int.eq_ofNat_of_zero_le hx.1
  obtain ⟨b, rfl⟩ := Int.eq_ofNat_of_zero_le hy.1
  have ha : a < 2 ^ 62 := by omega
  have hb : b < 2 ^ 62 := by omega
  have ha' : a % 2 ^ IntKind.i64.bits = a := Nat.mod_eq_of_lt (Nat.lt_of_lt_of_le ha (by decide))
  have hb' : b % 2 ^ IntKind.i64.bits = b := Nat.mod_eq_of_lt (Nat.lt_of_lt_of_le hb (by decide))
  have hxr : a ^^^ b < 2 ^ 62 := Nat.xor_lt_two_pow ha hb
  simp only [Go.bits, BitVec.ofInt_natCast, BitVec.toNat_xor, BitVec.toNat_ofNat, ha', hb']
  rw [IntKind.wrap_i64]
  have : ((a ^^^ b : Nat) : Int) < 2 ^ 62 := by exact_mod_cast hxr
  omega
theorem tmod_in (x n : Int) (hx : 0 ≤ x) (hn : 1 ≤ n) : 0 ≤ Int.tmod x n ∧ Int.tmod x n < n :=
  ⟨Int.tmod_nonneg _ hx, Int.tmod_lt_of_pos _ (by omega)⟩
theorem pick_ev {b : List Int} (hb : Code b) {p : Int} (hp : 0 ≤ p ∧ p ≤ 1000000000) {n : Int} (hn : 1 ≤ n) : ∃ v, Ev (fun k => spec_l20Rd_pick.f k b p n) (v, p + 1) ∧ 0 ≤ v ∧ v < n := by
  have hl := hb.1
  have hw : wrap64 (p + 1) = p + 1 := wrap_id (by omega) (by omega)
  have hw2 : wrap64 (p + 1 - 1) = p := by rw [wrap_id (by omega) (by omega)]; omega
  have e0 : ∀ k, spec_l20Rd_pick.f k b p n = spec_l20Rd_pick.j0 k n ((b.length : Int) == 0) b (p + 1) := fun k => by
    unfold spec_l20Rd_pick.f
    rw [if_neg (by omega), hw]
  by_cases hz : b.length = 0
  · refine ⟨0, Ev.congr e0 (Ev_now1 (fun k => ?_)), by omega, by omega⟩
    simp only [spec_l20Rd_pick.j0]
    rw [if_pos (by simp [hz])]
  · have hz' : ((b.length : Int) == 0) = false := by simpa using hz
    have hlp : (1 : Int) ≤ (b.length : Int) := by omega
    rw [hz'] at e0
    by_cases h1 : p < (b.length : Int)
    · have hr := code_rd hb p
      have hwr : wrap64 (rd b p) = rd b p := wrap_id (by omega) (by omega)
      obtain ⟨t0, t1⟩ := tmod_in (rd b p) n hr.1 hn
      refine ⟨Int.tmod (rd b p) n, Ev.congr e0 (Ev_now1 (fun k => ?_)), t0, t1⟩
      simp only [spec_l20Rd_pick.j0]
      rw [if_neg (by simp), hw2, if_pos h1, if_pos hp.1, if_neg (by omega), hwr]
    · obtain ⟨t0, t1⟩ := tmod_in p (b.length : Int) hp.1 hlp
      have w7 : wrap64 (p * 7) = p * 7 := wrap_id (by omega) (by omega)
      have w73 : wrap64 (p * 7 + 3) = p * 7 + 3 := wrap_id (by omega) (by omega)
      obtain ⟨s0, s1⟩ := tmod_in (p * 7 + 3) (b.length : Int) (by omega) hlp
      have ra := code_rd hb (Int.tmod p (b.length : Int))
      have rb := code_rd hb (Int.tmod (p * 7 + 3) (b.length : Int))
      have hd0 : 0 ≤ Int.tdiv p (b.length : Int) := Int.tdiv_nonneg hp.1 (by omega)
      have hd1 : Int.tdiv p (b.length : Int) ≤ p := by
        rw [Int.tdiv_eq_ediv_of_nonneg hp.1]
        exact Int.ediv_le_self _ hp.1
      generalize hA : rd b (Int.tmod p (b.length : Int)) = A at ra
      generalize hB : rd b (Int.tmod (p * 7 + 3) (b.length : Int)) = B at rb
      generalize hD : Int.tdiv p (b.length : Int) = D at hd0 hd1
      have v1 : wrap64 A = A := wrap_id (by omega) (by omega)
      have v2 : wrap64 (A * 131) = A * 131 := wrap_id (by omega) (by omega)
      have v3 : wrap64 B = B := wrap_id (by omega) (by omega)
      have v4 : wrap64 (B * 1117) = B * 1117 := wrap_id (by omega) (by omega)
      have v5 : wrap64 (A * 131 + B * 1117) = A * 131 + B * 1117 := wrap_id (by omega) (by omega)
      have v6 : wrap64 (p * 29) = p * 29 := wrap_id (by omega) (by omega)
      have v7 : wrap64 (A * 131 + B * 1117 + p * 29) = A * 131 + B * 1117 + p * 29 := wrap_id (by omega) (by omega)
      have v8 : wrap64 D = D := wrap_id (by omega) (by omega)
      have v9 : wrap64 (D * 53) = D * 53 := wrap_id (by omega) (by omega)
      have v10 : wrap64 (A * 131 + B * 1117 + p * 29 + D * 53) = A * 131 + B * 1117 + p * 29 + D * 53 := wrap_id (by omega) (by omega)
      have hx0 : 0 ≤ A * 131 + B * 1117 + p * 29 + D * 53 ∧ A * 131 + B * 1117 + p * 29 + D * 53 < 4611686018427387904 := by omega
      generalize hX : A * 131 + B * 1117 + p * 29 + D * 53 = X at v10 hx0
      have hq0 : 0 ≤ Int.tdiv X 64 := Int.tdiv_nonneg hx0.1 (by omega)
      have hq1 : Int.tdiv X 64 ≤ X := by
        rw [Int.tdiv_eq_ediv_of_nonneg hx0.1]
        omega
      have v11 : wrap64 (Int.tdiv X 64) = Int.tdiv X 64 := wrap_id (by omega) (by omega)
      have hxor := xor_pos X (Int.tdiv X 64) hx0 ⟨hq0, by omega⟩
      obtain ⟨u0, u1⟩ := tmod_in _ n hxor hn
      refine ⟨Int.tmod (Go.bits .xor .i64 X (Int.tdiv X 64)) n, Ev.congr e0 (Ev_now1 (fun k => ?_)), u0, u1⟩
      simp only [spec_l20Rd_pick.j0]
      rw [if_neg (by simp), hw2, if_neg h1, if_neg (by omega), if_pos t0, if_pos t1]
      simp only [w7, w73]
      rw [if_pos s0, if_pos s1, if_neg (by omega)]
      simp only [hA, hB, hD, v1, v2, v3, v4, v5, v6, v7, v8, v9, v10, hX, v11]
theorem open_ev {l : List Int} (hl : l.length ≤ 1048576) (hb : ∀ x ∈ l, (Lit.int .u8 x).wf = true) : ∃ b, spec_l20Open.f l = some (b, 0) ∧ Code b := by
  have hx : ∀ x ∈ l, 0 ≤ x ∧ x ≤ 255 := fun x h => by
    have := hb x h
    simp only [Lit.wf, Bool.and_eq_true, decide_eq_true_eq] at this
    have a : IntKind.u8.min = 0 := by decide
    have b : IntKind.u8.max = 255 := by decide
    omega
  unfold spec_l20Open.f
  by_cases h : (l.length : Int) > 2000
  · rw [if_pos h, if_pos (by omega)]
    exact ⟨_, rfl, by simp; omega, fun x hm => hx x (List.mem_of_mem_take hm)⟩
  · rw [if_neg h]
    exact ⟨_, rfl, by omega, hx⟩
theorem rdlit (xs : List Int) (i : Int) (h0 : 0 ≤ i) (h1 : i < (xs.length : Int)) : rd xs i ∈ xs := by
  unfold rd
  have h : i.toNat < xs.length := by omega
  rw [List.getD_eq_getElem?_getD, List.getElem?_eq_getElem h]
  exact List.getElem_mem h
theorem win_ev {b : List Int} (hb : Code b) {p : Int} (hp : 0 ≤ p ∧ p ≤ 999999900) {n : Int} (hn : 1 ≤ n) : ∃ s e q, Ev (fun k => spec_l20Win.f k b p n) (s, e, q) ∧ p ≤ q ∧ q ≤ p + 6 := by
  obtain ⟨v1, e1, a1, b1⟩ := pick_ev hb (p := p) (by omega) (n := 40) (by omega)
  obtain ⟨v2, e2, a2, b2⟩ := pick_ev hb (p := p + 1) (by omega) (n := 5) (by omega)
  obtain ⟨v3, e3, a3, b3⟩ := pick_ev hb (p := p + 1 + 1) (by omega) (n := 4) (by omega)
  obtain ⟨v4, e4, a4, b4⟩ := pick_ev hb (p := p + 1 + 1 + 1) (by omega) (n := n) hn
  have l1 : v2 < (([0, 5, 20, 60, v1] : List Int).length : Int) := by simpa using b2
  have l2 : v3 < (([1, 5, 10, 20] : List Int).length : Int) := by simpa using b3
  by_cases h : v4 = 0
  · obtain ⟨v5, e5, a5, b5⟩ := pick_ev hb (p := p + 1 + 1 + 1 + 1) (by omega) (n := 2) (by omega)
    by_cases h5 : v5 = 0
    · obtain ⟨v6, e6, a6, b6⟩ := pick_ev hb (p := p + 1 + 1 + 1 + 1 + 1) (by omega) (n := 3) (by omega)
      refine ⟨?_, ?_, ?_, ?e, ?_, ?_⟩
      case e =>
        unfold spec_l20Win.f
        refine Ev.bind e1 ?_
        simp only [Option.bind_some]
        refine Ev.bind e2 ?_
        simp only [if_pos a2, if_pos l1]
        refine Ev.bind e3 ?_
        simp only [if_pos a3, if_pos l2]
        refine Ev.bind e4 ?_
        simp only [if_pos h]
        refine Ev.bind e5 ?_
        simp only [if_pos h5]
        refine Ev.bind e6 ?_
        simp only [if_pos a6]
        rw [if_pos (by simpa using b6)]
        exact Ev.now _
      all_goals omega
    · obtain ⟨v6, e6, a6, b6⟩ := pick_ev hb (p := p + 1 + 1 + 1 + 1 + 1) (by omega) (n := 4) (by omega)
      refine ⟨?_, ?_, ?_, ?e, ?_, ?_⟩
      case e =>
        unfold spec_l20Win.f
        refine Ev.bind e1 ?_
        simp only [Option.bind_some]
        refine Ev.bind e2 ?_
        simp only [if_pos a2, if_pos l1]
        refine Ev.bind e3 ?_
        simp only [if_pos a3, if_pos l2]
        refine Ev.bind e4 ?_
        simp only [if_pos h]
        refine Ev.bind e5 ?_
        simp only [if_neg h5]
        refine Ev.bind e6 ?_
        simp only [if_pos a6]
        rw [if_pos (by simpa using b6)]
        exact Ev.now _
      all_goals omega
  · refine ⟨?_, ?_, ?_, ?e, ?_, ?_⟩
    case e =>
      unfold spec_l20Win.f
      refine Ev.bind e1 ?_
      simp only [Option.bind_some]
      refine Ev.bind e2 ?_
      simp only [if_pos a2, if_pos l1]
      refine Ev.bind e3 ?_
      simp only [if_pos a3, if_pos l2]
      refine Ev.bind e4 ?_
      simp only [if_neg h]
      exact Ev.now _
    all_goals omega
theorem two_ev {b : List Int} (hb : Code b) : ∃ r, Ev (fun k => spec_l20Two.f k b 0) r := by
  obtain ⟨s1, t1, q1, e1, a1, c1⟩ := win_ev hb (p := 0) (by omega) (n := 16) (by omega)
  obtain ⟨s2, t2, q2, e2, a2, c2⟩ := win_ev hb (p := q1) (by omega) (n := 16) (by omega)
  obtain ⟨v3, e3, a3, c3⟩ := pick_ev hb (p := q2) (by omega) (n := 2) (by omega)
  by_cases h : v3 = 0
  · obtain ⟨v4, e4, a4, c4⟩ := pick_ev hb (p := q2 + 1) (by omega) (n := 3) (by omega)
    refine ⟨?_, ?e⟩
    case e =>
      unfold spec_l20Two.f
      refine Ev.bind e1 (Ev.bind e2 (Ev.bind e3 ?_))
      simp only [if_pos h]
      refine Ev.bind e4 ?_
      exact Ev.now _
  · refine ⟨?_, ?e⟩
    case e =>
      unfold spec_l20Two.f
      refine Ev.bind e1 (Ev.bind e2 (Ev.bind e3 ?_))
      simp only [if_neg h]
      exact Ev.now _
theorem mx_is (a b : Int) : mx a b = if b > a then b else a := rfl
theorem mn_is (a b : Int) : mn a b = if b < a then b else a := rfl
theorem mn_le (a b : Int) : mn a b ≤ a ∧ mn a b ≤ b ∧ (mn a b = a ∨ mn a b = b) := by rw [mn_is]; split <;> omega
theorem mx_ge (a b : Int) : a ≤ mx a b ∧ b ≤ mx a b ∧ (mx a b = a ∨ mx a b = b) := by rw [mx_is]; split <;> omega
theorem mn_comm (a b : Int) : mn a b = mn b a := by rw [mn_is, mn_is]; split <;> split <;> omega
theorem mx_comm (a b : Int) : mx a b = mx b a := by rw [mx_is, mx_is]; split <;> split <;> omega
theorem mn_self (a : Int) : mn a a = a := by rw [mn_is]; split <;> rfl
theorem mx_self (a : Int) : mx a a = a := by rw [mx_is]; split <;> rfl
theorem span_is (a0 a1 b0 b1 : Int) : spec_WinSpan.f a0 a1 b0 b1 = some (mn a0 b0, mx a1 b1) := by
  unfold spec_WinSpan.f mn mx
  split <;> split <;> simp_all
theorem ispan_is (a0 a1 b0 b1 : Int) : impl_WinSpan.f a0 a1 b0 b1 = some (mn a0 b0, mx a1 b1) := rfl
theorem frOk_is : laws_frOk.f = some true := by decide +kernel

theorem FnWinSpan : laws_FnWinSpan.Pure := by
  intro l _ _ hx
  apply Ev.rounds
  unfold laws_FnWinSpan.f
  by_cases hl : (l.length : Int) > 1048576
  · simp only [if_pos hl]
    exact Ev.now _
  · simp only [if_neg hl]
    obtain ⟨b, ho, hb⟩ := open_ev (l := l) (by omega) hx
    obtain ⟨⟨s1, t1, s2, t2, q⟩, e⟩ := two_ev hb
    have hd : Ev (fun k => spec_DrawWinSpan.f k l) (s1, t1, s2, t2) := by
      unfold spec_DrawWinSpan.f
      rw [ho]
      simp only [Option.bind_some]
      exact Ev.bind e (Ev.now _)
    refine Ev.bind hd ?_
    simp only [span_is, ispan_is, Option.bind_some, mn_comm s2 s1, mx_comm t2 t1, mn_self, mx_self, beq_self_eq_true, Bool.not_true, Bool.or_self, Bool.false_eq_true, if_false]
    have n := mn_le s1 s2
    have x := mx_ge t1 t2
    have en : mn (mn s1 s2) s1 = mn s1 s2 := by have := mn_le (mn s1 s2) s1; omega
    have ex : mx (mx t1 t2) t1 = mx t1 t2 := by have := mx_ge (mx t1 t2) t1; omega
    refine Ev_now1 (fun k => ?_)
    simp only [laws_FnWinSpan.j0, ispan_is, Option.bind_some, en, ex, beq_self_eq_true, Bool.and_self, frOk_is, if_true]
    rw [if_neg (by simp), if_pos n.1, if_pos n.2.1, if_pos x.1, if_pos x.2.1]
    by_cases h1 : mn s1 s2 = s1
    · rw [if_pos h1]
      by_cases h2 : mx t1 t2 = t1
      · rw [if_pos h2]
      · rw [if_neg h2, if_pos (by omega)]
    · rw [if_neg h1, if_pos (show mn s1 s2 = s2 by omega)]
      by_cases h2 : mx t1 t2 = t1
      · rw [if_pos h2]
      · rw [if_neg h2, if_pos (by omega)]

end Go.Proofs.Ytgmkfhgebinfgaa.Pure
