/- The law FnAggTell over numbers and lists: the Lean function of it that was printed answers true. No condition but that each number is one of its kind. -/
import Derived.Test.YtgmkfhgebinfgaaQFnAggTellx3
import Derived.Test.YtgmkfhgebinfgaaAid
set_option linter.unusedVariables false
set_option linter.unusedSimpArgs false
namespace Go.Proofs.Ytgmkfhgebinfgaa.Pure
open Go.RowKit Go.Proofs.Ytgmkfhgebinfgaa.PFnAggTell Go.Proofs.YtgmkfhgebinfgaaW.PrintWords Go.Proofs.YtgmkfhgebinfgaaW.PrintLast Go.Proofs.Ytgmkfhgebinfgaa.Aid

/-- A code that may be read: bytes, not too many. -/
def Code (b : List Int) : Prop := b.length ≤ 2000 ∧ ∀ x ∈ b, 0 ≤ x ∧ x ≤ 255
theorem code_rd {b : List Int} (hb : Code b) (i : Int) : 0 ≤ rd b i ∧ rd b i ≤ 255 := by
  unfold rd
  rw [List.getD_eq_getElem?_getD]
  rcases Nat.lt_or_ge i.toNat b.length with h | h
  · rw [List.getElem?_eq_getElem h]
    exact hb.2 _ (List.getElem_mem h)
  · rw [List.getElem?_eq_none h]
    exact ⟨Int.le_refl _, by decide⟩
theorem xor_pos (x y : Int) (hx : 0 ≤ x ∧ x < 4611686018427387904) (hy : 0 ≤ y ∧ y < 4611686018427387904) : 0 ≤ Go.bits .xor .i64 x y := by
  obtain ⟨a, rfl⟩ := Int.eq_ofNat_of_zero_le hx.1
  obtain ⟨b, rfl⟩ := Int.eq_ofNat_of_zero_le hy.1
  have ha : a < 2 ^ 62 := by omega
  have hb : b < 2 ^ 62 := by omega
  have ha' : a % 2 ^ IntKind.i64.bits = a := Nat.mod_eq_of_lt (Nat.lt_of_lt_of_le ha (by decide))
  have hb' : b % 2 ^ IntKind.i64.bits = b := Nat.mod_eq_of_lt (Nat.lt_of_lt_of_le hb (by decide))
  have hxr : a ^^^ b < 2 ^ 62 := Nat.xor_lt_two_pow ha hb
  simp only [Go.bits, BitVec.ofInt_natCast, BitVec.toNat_xor, BitVec.toNat_ofNat, ha', hb']
  rw [IntKind.wrap_i64]
  have : ((a ^^^ b : Nat) : Int) < 2 ^ 62 := by exact_mod_cast hxr
  omega
theorem tmod_in (x n : Int) (hx : 0 ≤ x) (hn : 1 ≤ n) : 0 ≤ Int.tmod x n ∧ Int.tmod x n < n :=
  ⟨Int.tmod_nonneg _ hx, Int.tmod_lt_of_pos _ (by omega)⟩
theorem pick_ev {b : List Int} (hb : Code b) {p : Int} (hp : 0 ≤ p ∧ p ≤ 1000000000) {n : Int} (hn : 1 ≤ n) : ∃ v, Ev (fun k => spec_l20Rd_pick.f k b p n) (v, p + 1) ∧ 0 ≤ v ∧ v < n := by
  have hl := hb.1
  have hw : wrap64 (p + 1) = p + 1 := wrap_id (by omega) (by omega)
  have hw2 : wrap64 (p + 1 - 1) = p := by rw [wrap_id (by omega) (by omega)]; omega
  have e0 : ∀ k, spec_l20Rd_pick.f k b p n = spec_l20Rd_pick.j0 k n ((b.length : Int) == 0) b (p + 1) := fun k => by
    unfold spec_l20Rd_pick.f
    rw [if_neg (by omega), hw]
  by_cases hz : b.length = 0
  · refine ⟨0, Ev.congr e0 (Ev_now1 (fun k => ?_)), by omega, by omega⟩
    simp only [spec_l20Rd_pick.j0]
    rw [if_pos (by simp [hz])]
  · have hz' : ((b.length : Int) == 0) = false := by simpa using hz
    have hlp : (1 : Int) ≤ (b.length : Int) := by omega
    rw [hz'] at e0
    by_cases h1 : p < (b.length : Int)
    · have hr := code_rd hb p
      have hwr : wrap64 (rd b p) = rd b p := wrap_id (by omega) (by omega)
      obtain ⟨t0, t1⟩ := tmod_in (rd b p) n hr.1 hn
      refine ⟨Int.tmod (rd b p) n, Ev.congr e0 (Ev_now1 (fun k => ?_)), t0, t1⟩
      simp only [spec_l20Rd_pick.j0]
      rw [if_neg (by simp), hw2, if_pos h1, if_pos hp.1, if_neg (by omega), hwr]
    · obtain ⟨t0, t1⟩ := tmod_in p (b.length : Int) hp.1 hlp
      have w7 : wrap64 (p * 7) = p * 7 := wrap_id (by omega) (by omega)
      have w73 : wrap64 (p * 7 + 3) = p * 7 + 3 := wrap_id (by omega) (by omega)
      obtain ⟨s0, s1⟩ := tmod_in (p * 7 + 3) (b.length : Int) (by omega) hlp
      have ra := code_rd hb (Int.tmod p (b.length : Int))
      have rb := code_rd hb (Int.tmod (p * 7 + 3) (b.length : Int))
      have hd0 : 0 ≤ Int.tdiv p (b.length : Int) := Int.tdiv_nonneg hp.1 (by omega)
      have hd1 : Int.tdiv p (b.length : Int) ≤ p := by
        rw [Int.tdiv_eq_ediv_of_nonneg hp.1]
        exact Int.ediv_le_self _ hp.1
      generalize hA : rd b (Int.tmod p (b.length : Int)) = A at ra
      generalize hB : rd b (Int.tmod (p * 7 + 3) (b.length : Int)) = B at rb
      generalize hD : Int.tdiv p (b.length : Int) = D at hd0 hd1
      have v1 : wrap64 A = A := wrap_id (by omega) (by omega)
      have v2 : wrap64 (A * 131) = A * 131 := wrap_id (by omega) (by omega)
      have v3 : wrap64 B = B := wrap_id (by omega) (by omega)
      have v4 : wrap64 (B * 1117) = B * 1117 := wrap_id (by omega) (by omega)
      have v5 : wrap64 (A * 131 + B * 1117) = A * 131 + B * 1117 := wrap_id (by omega) (by omega)
      have v6 : wrap64 (p * 29) = p * 29 := wrap_id (by omega) (by omega)
      have v7 : wrap64 (A * 131 + B * 1117 + p * 29) = A * 131 + B * 1117 + p * 29 := wrap_id (by omega) (by omega)
      have v8 : wrap64 D = D := wrap_id (by omega) (by omega)
      have v9 : wrap64 (D * 53) = D * 53 := wrap_id (by omega) (by omega)
      have v10 : wrap64 (A * 131 + B * 1117 + p * 29 + D * 53) = A * 131 + B * 1117 + p * 29 + D * 53 := wrap_id (by omega) (by omega)
      have hx0 : 0 ≤ A * 131 + B * 1117 + p * 29 + D * 53 ∧ A * 131 + B * 1117 + p * 29 + D * 53 < 4611686018427387904 := by omega
      generalize hX : A * 131 + B * 1117 + p * 29 + D * 53 = X at v10 hx0
      have hq0 : 0 ≤ Int.tdiv X 64 := Int.tdiv_nonneg hx0.1 (by omega)
      have hq1 : Int.tdiv X 64 ≤ X := by
        rw [Int.tdiv_eq_ediv_of_nonneg hx0.1]
        omega
      have v11 : wrap64 (Int.tdiv X 64) = Int.tdiv X 64 := wrap_id (by omega) (by omega)
      have hxor := xor_pos X (Int.tdiv X 64) hx0 ⟨hq0, by omega⟩
      obtain ⟨u0, u1⟩ := tmod_in _ n hxor hn
      refine ⟨Int.tmod (Go.bits .xor .i64 X (Int.tdiv X 64)) n, Ev.congr e0 (Ev_now1 (fun k => ?_)), u0, u1⟩
      simp only [spec_l20Rd_pick.j0]
      rw [if_neg (by simp), hw2, if_neg h1, if_neg (by omega), if_pos t0, if_pos t1]
      simp only [w7, w73]
      rw [if_pos s0, if_pos s1, if_neg (by omega)]
      simp only [hA, hB, hD, v1, v2, v3, v4, v5, v6, v7, v8, v9, v10, hX, v11]
theorem open_ev {l : List Int} (hl : l.length ≤ 1048576) (hb : ∀ x ∈ l, (Lit.int .u8 x).wf = true) : ∃ b, spec_l20Open.f l = some (b, 0) ∧ Code b := by
  have hx : ∀ x ∈ l, 0 ≤ x ∧ x ≤ 255 := fun x h => by
    have := hb x h
    simp only [Lit.wf, Bool.and_eq_true, decide_eq_true_eq] at this
    have a : IntKind.u8.min = 0 := by decide
    have b : IntKind.u8.max = 255 := by decide
    omega
  unfold spec_l20Open.f
  by_cases h : (l.length : Int) > 2000
  · rw [if_pos h, if_pos (by omega)]
    exact ⟨_, rfl, by simp; omega, fun x hm => hx x (List.mem_of_mem_take hm)⟩
  · rw [if_neg h]
    exact ⟨_, rfl, by omega, hx⟩
theorem rdlit (xs : List Int) (i : Int) (h0 : 0 ≤ i) (h1 : i < (xs.length : Int)) : rd xs i ∈ xs := by
  unfold rd
  have h : i.toNat < xs.length := by omega
  rw [List.getD_eq_getElem?_getD, List.getElem?_eq_getElem h]
  exact List.getElem_mem h
theorem mx_is (a b : Int) : mx a b = if b > a then b else a := rfl
theorem mn_is (a b : Int) : mn a b = if b < a then b else a := rfl
theorem mn_le (a b : Int) : mn a b ≤ a ∧ mn a b ≤ b ∧ (mn a b = a ∨ mn a b = b) := by rw [mn_is]; split <;> omega
theorem mx_ge (a b : Int) : a ≤ mx a b ∧ b ≤ mx a b ∧ (mx a b = a ∨ mx a b = b) := by rw [mx_is]; split <;> omega
theorem mn_comm (a b : Int) : mn a b = mn b a := by rw [mn_is, mn_is]; split <;> split <;> omega
theorem mx_comm (a b : Int) : mx a b = mx b a := by rw [mx_is, mx_is]; split <;> split <;> omega
theorem mn_assoc (a b c : Int) : mn (mn a b) c = mn a (mn b c) := by
  have h1 := mn_le a b; have h2 := mn_le b c; have h3 := mn_le (mn a b) c; have h4 := mn_le a (mn b c); omega
theorem mx_assoc (a b c : Int) : mx (mx a b) c = mx a (mx b c) := by
  have h1 := mx_ge a b; have h2 := mx_ge b c; have h3 := mx_ge (mx a b) c; have h4 := mx_ge a (mx b c); omega
/-- Both, as a function. -/
def both (a b : Int × Int × Int × Int) : Int × Int × Int × Int :=
  if a.1 = 0 then b else if b.1 = 0 then a else (wrap64 (a.1 + b.1), wrap64 (a.2.1 + b.2.1), mn a.2.2.1 b.2.2.1, mx a.2.2.2 b.2.2.2)
theorem implBoth_is (a0 a1 a2 a3 b0 b1 b2 b3 : Int) : impl_AggBoth.f a0 a1 a2 a3 b0 b1 b2 b3 = some (both (a0, a1, a2, a3) (b0, b1, b2, b3)) := by
  unfold impl_AggBoth.f both
  simp only
  split
  · rfl
  · split <;> rfl
theorem specBoth_is (a0 a1 a2 a3 b0 b1 b2 b3 : Int) : spec_AggBoth.f a0 a1 a2 a3 b0 b1 b2 b3 = some (both (a0, a1, a2, a3) (b0, b1, b2, b3)) := by
  unfold spec_AggBoth.f both mn mx
  simp only
  repeat' split
  all_goals simp_all
theorem specAdd_is (a0 a1 a2 a3 v : Int) : spec_AggAdd.f a0 a1 a2 a3 v = some (both (a0, a1, a2, a3) (1, v, v, v)) := by
  unfold spec_AggAdd.f
  rw [specBoth_is]
  rfl
theorem agg_loop {b : List Int} (hb : Code b) (n : Int) (hn : 1 ≤ n) (d : Nat) : ∀ (i p N S L M : Int), i = d → i + N ≤ 5 → 0 ≤ N → 0 ≤ p → p + i ≤ 999999000 → ∃ r, Ev (fun k => spec_l20Agg.l0 k n i b p N S L M) r ∧ (r.1 ≤ 10 ∨ r.1 = 1001) ∧ p ≤ r.2.2.2.2 ∧ r.2.2.2.2 ≤ p + i + 4 := by
  induction d with
  | zero =>
    intro i p N S L M hi hN hN0 hp0 hp1
    have hi0 : ¬ i > 0 := by omega
    obtain ⟨v1, e1, a1, b1⟩ := pick_ev hb (p := p) (by omega) (n := n) hn
    have step : ∀ {r : Int × Int × Int × Int × Int}, Ev (fun k => (spec_l20Rd_pick.f k b p n).bind fun bt131 => (if bt131.1 > 0 then (some (N, S, L, M, bt131.2)) else ((some (([(-1), 0, 1, 10, 1001, (-10)] : List Int) : List Int)).bind fun y133 => ((spec_l20Rd_pick.f k b bt131.2 6).bind fun bt136 => (if 0 ≤ bt136.1 then (if bt136.1 < (y133.length : Int) then ((spec_l20Rd_pick.f k b bt136.2 4).bind fun bt139 => (if bt139.1 = 0 then (some (rd y133 bt136.1, S, L, M, bt139.2)) else (if bt139.1 = 1 then (some (N, wrap64 ((rd y133 bt136.1) * 7), L, M, bt139.2)) else (if bt139.1 = 2 then (some (N, S, rd y133 bt136.1, M, bt139.2)) else (some (N, S, L, rd y133 bt136.1, bt139.2)))))) else (none)) else (none)))))) r → Ev (fun k => spec_l20Agg.l0 k n i b p N S L M) r := fun h => Ev_eq h (fun k => by
      simp only [spec_l20Agg.l0]
      rw [if_neg hi0])
    by_cases h1 : v1 > 0
    · refine ⟨?_, step (Ev.bind e1 ?e), ?_, ?_, ?_⟩
      case e =>
        simp only [if_pos h1]
        exact Ev.now _
      · exact .inl (by simp only; omega)
      · simp only; omega
      · simp only; omega
    · obtain ⟨v2, e2, a2, b2⟩ := pick_ev hb (p := p + 1) (by omega) (n := 6) (by omega)
      obtain ⟨v3, e3, a3, b3⟩ := pick_ev hb (p := p + 1 + 1) (by omega) (n := 4) (by omega)
      have l2 : v2 < (([(-1), 0, 1, 10, 1001, (-10)] : List Int).length : Int) := by simpa using b2
      have hm : rd [(-1), 0, 1, 10, 1001, (-10)] v2 ≤ 10 ∨ rd [(-1), 0, 1, 10, 1001, (-10)] v2 = 1001 := by
        have hm := rdlit [(-1), 0, 1, 10, 1001, (-10)] v2 a2 l2
        simp only [List.mem_cons, List.mem_nil_iff, or_false] at hm
        omega
      by_cases h30 : v3 = 0
      · refine ⟨?_, step (Ev.bind e1 ?e), ?_, ?_, ?_⟩
        case e =>
          simp only [if_neg h1, Option.bind_some]
          refine Ev.bind e2 ?_
          simp only [if_pos a2, if_pos l2]
          refine Ev.bind e3 ?_
          simp only [if_pos h30]
          exact Ev.now _
        · exact hm
        · simp only; omega
        · simp only; omega
      · by_cases h31 : v3 = 1
        · refine ⟨?_, step (Ev.bind e1 ?e), ?_, ?_, ?_⟩
          case e =>
            simp only [if_neg h1, Option.bind_some]
            refine Ev.bind e2 ?_
            simp only [if_pos a2, if_pos l2]
            refine Ev.bind e3 ?_
            simp only [if_neg h30, if_pos h31]
            exact Ev.now _
          · exact .inl (by simp only; omega)
          · simp only; omega
          · simp only; omega
        · by_cases h32 : v3 = 2
          · refine ⟨?_, step (Ev.bind e1 ?e), ?_, ?_, ?_⟩
            case e =>
              simp only [if_neg h1, Option.bind_some]
              refine Ev.bind e2 ?_
              simp only [if_pos a2, if_pos l2]
              refine Ev.bind e3 ?_
              simp only [if_neg h30, if_neg h31, if_pos h32]
              exact Ev.now _
            · exact .inl (by simp only; omega)
            · simp only; omega
            · simp only; omega
          · refine ⟨?_, step (Ev.bind e1 ?e), ?_, ?_, ?_⟩
            case e =>
              simp only [if_neg h1, Option.bind_some]
              refine Ev.bind e2 ?_
              simp only [if_pos a2, if_pos l2]
              refine Ev.bind e3 ?_
              simp only [if_neg h30, if_neg h31, if_neg h32]
              exact Ev.now _
            · exact .inl (by simp only; omega)
            · simp only; omega
            · simp only; omega
  | succ d ih =>
    intro i p N S L M hi hN hN0 hp0 hp1
    have hi0 : i > 0 := by omega
    obtain ⟨v1, e1, a1, b1⟩ := pick_ev hb (p := p) (by omega) (n := 19) (by omega)
    have hb1 : (both (N, S, L, M) (1, wrap64 (v1 - 9), wrap64 (v1 - 9), wrap64 (v1 - 9))).1 = N + 1 := by
      unfold both
      simp only
      split
      · simp only; omega
      · rw [if_neg (by decide)]
        simp only
        exact wrap_id (by omega) (by omega)
    generalize hB : both (N, S, L, M) (1, wrap64 (v1 - 9), wrap64 (v1 - 9), wrap64 (v1 - 9)) = B at hb1
    obtain ⟨B0, B1, B2, B3⟩ := B
    simp only at hb1
    obtain ⟨r, hr, hr1, hr2, hr3⟩ := ih (i - 1) (p + 1) B0 B1 B2 B3 (by omega) (by omega) (by omega) (by omega) (by omega)
    refine ⟨r, ?_, hr1, by omega, by omega⟩
    refine Ev_eq (f := fun k => (spec_l20Rd_pick.f k b p 19).bind fun bt125 => ((spec_AggAdd.f N S L M (wrap64 (bt125.1 - 9))).bind fun bt127 => (spec_l20Agg.l0 k n (wrap64 (i - 1)) b bt125.2 bt127.1 bt127.2.1 bt127.2.2.1 bt127.2.2.2))) ?_ (fun k => by
      simp only [spec_l20Agg.l0]
      rw [if_pos hi0])
    refine Ev.bind e1 ?_
    simp only [specAdd_is, Option.bind_some, hB]
    rw [wrap_id (x := i - 1) (by omega) (by omega)]
    exact hr
theorem agg_ev {b : List Int} (hb : Code b) {n : Int} (hn : 1 ≤ n) {p : Int} (hp : 0 ≤ p ∧ p ≤ 999990000) : ∃ N S L M q, Ev (fun k => spec_l20Agg.f k b p n) (N, S, L, M, q) ∧ (N ≤ 10 ∨ N = 1001) ∧ p ≤ q ∧ q ≤ p + 10 := by
  obtain ⟨v1, e1, a1, b1⟩ := pick_ev hb (p := p) (by omega) (n := 6) (by omega)
  obtain ⟨⟨N, S, L, M, q⟩, hr, hr1, hr2, hr3⟩ := agg_loop hb n hn v1.toNat v1 (p + 1) 0 0 0 0 (by omega) (by omega) (by omega) (by omega) (by omega)
  refine ⟨N, S, L, M, q, ?_, hr1, by simp only at hr2; omega, by simp only at hr3; omega⟩
  unfold spec_l20Agg.f
  exact Ev.bind e1 hr
theorem frOk_is : laws_frOk.f = some true := by decide +kernel
theorem implAdd_is (a0 a1 a2 a3 v : Int) : impl_AggAdd.f a0 a1 a2 a3 v = some (both (a0, a1, a2, a3) (1, v, v, v)) := by
  unfold impl_AggAdd.f
  rw [implBoth_is]
  rfl

theorem FnAggTell : laws_FnAggTell.Pure := by
  intro l _ _ hx
  apply Ev.rounds
  unfold laws_FnAggTell.f
  by_cases hl : (l.length : Int) > 1048576
  · simp only [if_pos hl]
    exact Ev.now _
  · simp only [if_neg hl]
    obtain ⟨b, ho, hb⟩ := open_ev (l := l) (by omega) hx
    obtain ⟨a0, a1, a2, a3, q, e1, h1, h2, h3⟩ := agg_ev hb (n := 12) (by omega) (p := 0) (by omega)
    obtain ⟨v, e2, c1, c2⟩ := pick_ev hb (p := q) (by omega) (n := 7) (by omega)
    have hw : wrap64 (v - 1) = v - 1 := wrap_id (by omega) (by omega)
    have hd : Ev (fun k => spec_DrawAggTell.f k l) (a0, a1, a2, a3, v - 1) := by
      unfold spec_DrawAggTell.f
      rw [ho]
      simp only [Option.bind_some]
      refine Ev.bind e1 (Ev.bind e2 ?_)
      simp only [hw]
      exact Ev.now _
    refine Ev.bind hd ?_
    generalize hV : v - 1 = z
    have hz : -1 ≤ z ∧ z ≤ 5 := by omega
    clear hw hd
    have ht : impl_AggTell.f = spec_AggTell.f := rfl
    obtain ⟨t, hs⟩ : ∃ t, spec_AggTell.f a0 a1 a2 a3 z = some t := by
      unfold spec_AggTell.f
      repeat' split
      all_goals exact ⟨_, rfl⟩
    simp only [ht, hs, Option.bind_some, if_true]
    have hout : ¬ (1 ≤ z ∧ z ≤ 4) → Ev (fun k => laws_FnAggTell.j0 k z t true a0 a1 a2 a3) true := fun h => Ev_now1 (fun k => by
      have h0 : t = 0 := by
        unfold spec_AggTell.f at hs
        rw [if_neg (by omega), if_neg (by omega), if_neg (by omega), if_neg (by omega)] at hs
        exact (Option.some.inj hs).symm
      simp only [laws_FnAggTell.j0, frOk_is, Option.bind_some]
      rw [if_pos trivial, if_pos h0])
    by_cases h4 : z < 1
    · simp only [if_pos h4]
      exact hout (by omega)
    · simp only [if_neg h4]
      by_cases h5 : z > 4
      · rw [decide_eq_true h5]
        exact hout (by omega)
      · rw [decide_eq_false h5]
        have hB : both (0, 0, 0, 0) (1, 3, 3, 3) = (1, 3, 3, 3) := by decide +kernel
        have hB2 : both (1, 3, 3, 3) (1, -4, -4, -4) = (2, -1, -4, 3) := by decide +kernel
        refine Ev_now1 (fun k => ?_)
        simp only [laws_FnAggTell.j0, implAdd_is, hB, hB2, Option.bind_some, ht]
        rw [if_neg (by simp)]
        have hcase : z = 1 ∨ z = 2 ∨ z = 3 ∨ z = 4 := by omega
        rcases hcase with rfl | rfl | rfl | rfl
        · have h0 : t = a0 := (Option.some.inj hs).symm
          subst h0
          simp [rd, spec_AggTell.f, show wrap64 (0 : Int) = 0 from by decide +kernel]
        · have h0 : t = a1 := (Option.some.inj hs).symm
          subst h0
          simp [rd, spec_AggTell.f, show wrap64 (1 : Int) = 1 from by decide +kernel]
        · have h0 : t = a2 := (Option.some.inj hs).symm
          subst h0
          simp [rd, spec_AggTell.f, show wrap64 (2 : Int) = 2 from by decide +kernel]
        · have h0 : t = a3 := (Option.some.inj hs).symm
          subst h0
          simp [rd, spec_AggTell.f, show wrap64 (3 : Int) = 3 from by decide +kernel]

end Go.Proofs.Ytgmkfhgebinfgaa.Pure
