/- The law FnTabOut over numbers and lists: the Lean function of it that was printed answers true. No condition but that each number is one of its kind. -/
import Derived.Test.YtjclmjmbhhlbcaaQFnTabOutx12
import Derived.Test.YtjclmjmbhhlbcaaVFnTabOutAid
set_option linter.unusedVariables false
set_option linter.unusedSimpArgs false
namespace Go.Proofs.Ytjclmjmbhhlbcaa.Pure
open Go.RowKit Go.Proofs.Ytjclmjmbhhlbcaa.PFnTabOut Go.Proofs.YtjclmjmbhhlbcaaW.PrintWords Go.Proofs.YtjclmjmbhhlbcaaW.PrintLast Go.Proofs.Ytjclmjmbhhlbcaa.Aid

theorem rd89_at (l : List S89) (j : Nat) (h : j < l.length) : rd_T89 l (j : Int) = l[j] := by simp [rd_T89, List.getD_eq_getElem?_getD, h]
theorem rd67_at (l : List S67) (j : Nat) (h : j < l.length) : rd_T67 l (j : Int) = l[j] := by simp [rd_T67, List.getD_eq_getElem?_getD, h]
/-- A code that may be read: bytes, not too many. -/
def Code (b : List Int) : Prop := b.length ≤ 2000 ∧ ∀ x ∈ b, 0 ≤ x ∧ x ≤ 255
theorem code_rd {b : List Int} (hb : Code b) (i : Int) : 0 ≤ rd b i ∧ rd b i ≤ 255 := by
  unfold rd
  rw [List.getD_eq_getElem?_getD]
  rcases Nat.lt_or_ge i.toNat b.length with h | h
  · rw [List.getElem?_eq_getElem h]
    exact hb.2 _ (List.getElem_mem h)
  · rw [List.getElem?_eq_none h]
    exact ⟨Int.le_refl _, by decide⟩
theorem xor_pos (x y : Int) (hx : 0 ≤ x ∧ x < 4611686018427387904) (hy : 0 ≤ y ∧ y < 4611686018427387904) : 0 ≤ Go.bits .xor .i64 x y := by
  obtain ⟨a, rfl⟩ := Int.eq_ofNat_of_zero_le hx.1
  obtain ⟨b, rfl⟩ := Int.eq_ofNat_of_zero_le hy.1
  have ha : a < 2 ^ 62 := by omega
  have hb : b < 2 ^ 62 := by omega
  have ha' : a % 2 ^ IntKind.i64.bits = a := Nat.mod_eq_of_lt (Nat.lt_of_lt_of_le ha (by decide))
  have hb' : b % 2 ^ IntKind.i64.bits = b := Nat.mod_eq_of_lt (Nat.lt_of_lt_of_le hb (by decide))
  have hxr : a ^^^ b < 2 ^ 62 := Nat.xor_lt_two_pow ha hb
  simp only [Go.bits, BitVec.ofInt_natCast, BitVec.toNat_xor, BitVec.toNat_ofNat, ha', hb']
  rw [IntKind.wrap_i64]
  have : ((a ^^^ b : Nat) : Int) < 2 ^ 62 := by exact_mod_cast hxr
  omega
theorem tmod_in (x n : Int) (hx : 0 ≤ x) (hn : 1 ≤ n) : 0 ≤ Int.tmod x n ∧ Int.tmod x n < n :=
  ⟨Int.tmod_nonneg _ hx, Int.tmod_lt_of_pos _ (by omega)⟩
theorem pick_ev {b : List Int} (hb : Code b) {p : Int} (hp : 0 ≤ p ∧ p ≤ 1000000000) {n : Int} (hn : 1 ≤ n) : ∃ v, Ev (fun k => spec_l20Rd_pick.f k b p n) (v, p + 1) ∧ 0 ≤ v ∧ v < n := by
  have hl := hb.1
  have hw : wrap64 (p + 1) = p + 1 := wrap_id (by omega) (by omega)
  have hw2 : wrap64 (p + 1 - 1) = p := by rw [wrap_id (by omega) (by omega)]; omega
  have e0 : ∀ k, spec_l20Rd_pick.f k b p n = spec_l20Rd_pick.j0 k n ((b.length : Int) == 0) b (p + 1) := fun k => by
    unfold spec_l20Rd_pick.f
    rw [if_neg (by omega), hw]
  by_cases hz : b.length = 0
  · refine ⟨0, Ev.congr e0 (Ev_now1 (fun k => ?_)), by omega, by omega⟩
    simp only [spec_l20Rd_pick.j0]
    rw [if_pos (by simp [hz])]
  · have hz' : ((b.length : Int) == 0) = false := by simpa using hz
    have hlp : (1 : Int) ≤ (b.length : Int) := by omega
    rw [hz'] at e0
    by_cases h1 : p < (b.length : Int)
    · have hr := code_rd hb p
      have hwr : wrap64 (rd b p) = rd b p := wrap_id (by omega) (by omega)
      obtain ⟨t0, t1⟩ := tmod_in (rd b p) n hr.1 hn
      refine ⟨Int.tmod (rd b p) n, Ev.congr e0 (Ev_now1 (fun k => ?_)), t0, t1⟩
      simp only [spec_l20Rd_pick.j0]
      rw [if_neg (by simp), hw2, if_pos h1, if_pos hp.1, if_neg (by omega), hwr]
    · obtain ⟨t0, t1⟩ := tmod_in p (b.length : Int) hp.1 hlp
      have w7 : wrap64 (p * 7) = p * 7 := wrap_id (by omega) (by omega)
      have w73 : wrap64 (p * 7 + 3) = p * 7 + 3 := wrap_id (by omega) (by omega)
      obtain ⟨s0, s1⟩ := tmod_in (p * 7 + 3) (b.length : Int) (by omega) hlp
      have ra := code_rd hb (Int.tmod p (b.length : Int))
      have rb := code_rd hb (Int.tmod (p * 7 + 3) (b.length : Int))
      have hd0 : 0 ≤ Int.tdiv p (b.length : Int) := Int.tdiv_nonneg hp.1 (by omega)
      have hd1 : Int.tdiv p (b.length : Int) ≤ p := by
        rw [Int.tdiv_eq_ediv_of_nonneg hp.1]
        exact Int.ediv_le_self _ hp.1
      generalize hA : rd b (Int.tmod p (b.length : Int)) = A at ra
      generalize hB : rd b (Int.tmod (p * 7 + 3) (b.length : Int)) = B at rb
      generalize hD : Int.tdiv p (b.length : Int) = D at hd0 hd1
      have v1 : wrap64 A = A := wrap_id (by omega) (by omega)
      have v2 : wrap64 (A * 131) = A * 131 := wrap_id (by omega) (by omega)
      have v3 : wrap64 B = B := wrap_id (by omega) (by omega)
      have v4 : wrap64 (B * 1117) = B * 1117 := wrap_id (by omega) (by omega)
      have v5 : wrap64 (A * 131 + B * 1117) = A * 131 + B * 1117 := wrap_id (by omega) (by omega)
      have v6 : wrap64 (p * 29) = p * 29 := wrap_id (by omega) (by omega)
      have v7 : wrap64 (A * 131 + B * 1117 + p * 29) = A * 131 + B * 1117 + p * 29 := wrap_id (by omega) (by omega)
      have v8 : wrap64 D = D := wrap_id (by omega) (by omega)
      have v9 : wrap64 (D * 53) = D * 53 := wrap_id (by omega) (by omega)
      have v10 : wrap64 (A * 131 + B * 1117 + p * 29 + D * 53) = A * 131 + B * 1117 + p * 29 + D * 53 := wrap_id (by omega) (by omega)
      have hx0 : 0 ≤ A * 131 + B * 1117 + p * 29 + D * 53 ∧ A * 131 + B * 1117 + p * 29 + D * 53 < 4611686018427387904 := by omega
      generalize hX : A * 131 + B * 1117 + p * 29 + D * 53 = X at v10 hx0
      have hq0 : 0 ≤ Int.tdiv X 64 := Int.tdiv_nonneg hx0.1 (by omega)
      have hq1 : Int.tdiv X 64 ≤ X := by
        rw [Int.tdiv_eq_ediv_of_nonneg hx0.1]
        omega
      have v11 : wrap64 (Int.tdiv X 64) = Int.tdiv X 64 := wrap_id (by omega) (by omega)
      have hxor := xor_pos X (Int.tdiv X 64) hx0 ⟨hq0, by omega⟩
      obtain ⟨u0, u1⟩ := tmod_in _ n hxor hn
      refine ⟨Int.tmod (Go.bits .xor .i64 X (Int.tdiv X 64)) n, Ev.congr e0 (Ev_now1 (fun k => ?_)), u0, u1⟩
      simp only [spec_l20Rd_pick.j0]
      rw [if_neg (by simp), hw2, if_neg h1, if_neg (by omega), if_pos t0, if_pos t1]
      simp only [w7, w73]
      rw [if_pos s0, if_pos s1, if_neg (by omega)]
      simp only [hA, hB, hD, v1, v2, v3, v4, v5, v6, v7, v8, v9, v10, hX, v11]
theorem open_ev {l : List Int} (hl : l.length ≤ 1048576) (hb : ∀ x ∈ l, (Lit.int .u8 x).wf = true) : ∃ b, spec_l20Open.f l = some (b, 0) ∧ Code b := by
  have hx : ∀ x ∈ l, 0 ≤ x ∧ x ≤ 255 := fun x h => by
    have := hb x h
    simp only [Lit.wf, Bool.and_eq_true, decide_eq_true_eq] at this
    have a : IntKind.u8.min = 0 := by decide
    have b : IntKind.u8.max = 255 := by decide
    omega
  unfold spec_l20Open.f
  by_cases h : (l.length : Int) > 2000
  · rw [if_pos h, if_pos (by omega)]
    exact ⟨_, rfl, by simp; omega, fun x hm => hx x (List.mem_of_mem_take hm)⟩
  · rw [if_neg h]
    exact ⟨_, rfl, by omega, hx⟩
theorem rdlit (xs : List Int) (i : Int) (h0 : 0 ≤ i) (h1 : i < (xs.length : Int)) : rd xs i ∈ xs := by
  unfold rd
  have h : i.toNat < xs.length := by omega
  rw [List.getD_eq_getElem?_getD, List.getElem?_eq_getElem h]
  exact List.getElem_mem h
theorem win_ev {b : List Int} (hb : Code b) {p : Int} (hp : 0 ≤ p ∧ p ≤ 999999900) {n : Int} (hn : 1 ≤ n) : ∃ s e q, Ev (fun k => spec_l20Win.f k b p n) (s, e, q) ∧ p ≤ q ∧ q ≤ p + 6 := by
  obtain ⟨v1, e1, a1, b1⟩ := pick_ev hb (p := p) (by omega) (n := 40) (by omega)
  obtain ⟨v2, e2, a2, b2⟩ := pick_ev hb (p := p + 1) (by omega) (n := 5) (by omega)
  obtain ⟨v3, e3, a3, b3⟩ := pick_ev hb (p := p + 1 + 1) (by omega) (n := 4) (by omega)
  obtain ⟨v4, e4, a4, b4⟩ := pick_ev hb (p := p + 1 + 1 + 1) (by omega) (n := n) hn
  have l1 : v2 < (([0, 5, 20, 60, v1] : List Int).length : Int) := by simpa using b2
  have l2 : v3 < (([1, 5, 10, 20] : List Int).length : Int) := by simpa using b3
  by_cases h : v4 = 0
  · obtain ⟨v5, e5, a5, b5⟩ := pick_ev hb (p := p + 1 + 1 + 1 + 1) (by omega) (n := 2) (by omega)
    by_cases h5 : v5 = 0
    · obtain ⟨v6, e6, a6, b6⟩ := pick_ev hb (p := p + 1 + 1 + 1 + 1 + 1) (by omega) (n := 3) (by omega)
      refine ⟨?_, ?_, ?_, ?e, ?_, ?_⟩
      case e =>
        unfold spec_l20Win.f
        refine Ev.bind e1 ?_
        simp only [Option.bind_some]
        refine Ev.bind e2 ?_
        simp only [if_pos a2, if_pos l1]
        refine Ev.bind e3 ?_
        simp only [if_pos a3, if_pos l2]
        refine Ev.bind e4 ?_
        simp only [if_pos h]
        refine Ev.bind e5 ?_
        simp only [if_pos h5]
        refine Ev.bind e6 ?_
        simp only [if_pos a6]
        rw [if_pos (by simpa using b6)]
        exact Ev.now _
      all_goals omega
    · obtain ⟨v6, e6, a6, b6⟩ := pick_ev hb (p := p + 1 + 1 + 1 + 1 + 1) (by omega) (n := 4) (by omega)
      refine ⟨?_, ?_, ?_, ?e, ?_, ?_⟩
      case e =>
        unfold spec_l20Win.f
        refine Ev.bind e1 ?_
        simp only [Option.bind_some]
        refine Ev.bind e2 ?_
        simp only [if_pos a2, if_pos l1]
        refine Ev.bind e3 ?_
        simp only [if_pos a3, if_pos l2]
        refine Ev.bind e4 ?_
        simp only [if_pos h]
        refine Ev.bind e5 ?_
        simp only [if_neg h5]
        refine Ev.bind e6 ?_
        simp only [if_pos a6]
        rw [if_pos (by simpa using b6)]
        exact Ev.now _
      all_goals omega
  · refine ⟨?_, ?_, ?_, ?e, ?_, ?_⟩
    case e =>
      unfold spec_l20Win.f
      refine Ev.bind e1 ?_
      simp only [Option.bind_some]
      refine Ev.bind e2 ?_
      simp only [if_pos a2, if_pos l1]
      refine Ev.bind e3 ?_
      simp only [if_pos a3, if_pos l2]
      refine Ev.bind e4 ?_
      simp only [if_neg h]
      exact Ev.now _
    all_goals omega
theorem mx_is (a b : Int) : mx a b = if b > a then b else a := rfl
theorem mn_is (a b : Int) : mn a b = if b < a then b else a := rfl
theorem mn_le (a b : Int) : mn a b ≤ a ∧ mn a b ≤ b ∧ (mn a b = a ∨ mn a b = b) := by rw [mn_is]; split <;> omega
theorem mx_ge (a b : Int) : a ≤ mx a b ∧ b ≤ mx a b ∧ (mx a b = a ∨ mx a b = b) := by rw [mx_is]; split <;> omega
theorem mn_comm (a b : Int) : mn a b = mn b a := by rw [mn_is, mn_is]; split <;> split <;> omega
theorem mx_comm (a b : Int) : mx a b = mx b a := by rw [mx_is, mx_is]; split <;> split <;> omega
theorem mn_assoc (a b c : Int) : mn (mn a b) c = mn a (mn b c) := by
  have h1 := mn_le a b; have h2 := mn_le b c; have h3 := mn_le (mn a b) c; have h4 := mn_le a (mn b c); omega
theorem mx_assoc (a b c : Int) : mx (mx a b) c = mx a (mx b c) := by
  have h1 := mx_ge a b; have h2 := mx_ge b c; have h3 := mx_ge (mx a b) c; have h4 := mx_ge a (mx b c); omega
/-- Both, as a function. -/
def both (a b : Int × Int × Int × Int) : Int × Int × Int × Int :=
  if a.1 = 0 then b else if b.1 = 0 then a else (wrap64 (a.1 + b.1), wrap64 (a.2.1 + b.2.1), mn a.2.2.1 b.2.2.1, mx a.2.2.2 b.2.2.2)
theorem specBoth_is (a0 a1 a2 a3 b0 b1 b2 b3 : Int) : spec_AggBoth.f a0 a1 a2 a3 b0 b1 b2 b3 = some (both (a0, a1, a2, a3) (b0, b1, b2, b3)) := by
  unfold spec_AggBoth.f both mn mx
  simp only
  repeat' split
  all_goals simp_all
theorem specAdd_is (a0 a1 a2 a3 v : Int) : spec_AggAdd.f a0 a1 a2 a3 v = some (both (a0, a1, a2, a3) (1, v, v, v)) := by
  unfold spec_AggAdd.f
  rw [specBoth_is]
  rfl
theorem agg_loop {b : List Int} (hb : Code b) (n : Int) (hn : 1 ≤ n) (d : Nat) : ∀ (i p N S L M : Int), i = d → i + N ≤ 5 → 0 ≤ N → 0 ≤ p → p + i ≤ 999999000 → ∃ r, Ev (fun k => spec_l20Agg.l0 k n i b p N S L M) r ∧ (r.1 ≤ 10 ∨ r.1 = 1001) ∧ p ≤ r.2.2.2.2 ∧ r.2.2.2.2 ≤ p + i + 4 := by
  induction d with
  | zero =>
    intro i p N S L M hi hN hN0 hp0 hp1
    have hi0 : ¬ i > 0 := by omega
    obtain ⟨v1, e1, a1, b1⟩ := pick_ev hb (p := p) (by omega) (n := n) hn
    have step : ∀ {r : Int × Int × Int × Int × Int}, Ev (fun k => (spec_l20Rd_pick.f k b p n).bind fun bt131 => (if bt131.1 > 0 then (some (N, S, L, M, bt131.2)) else ((some (([(-1), 0, 1, 10, 1001, (-10)] : List Int) : List Int)).bind fun y133 => ((spec_l20Rd_pick.f k b bt131.2 6).bind fun bt136 => (if 0 ≤ bt136.1 then (if bt136.1 < (y133.length : Int) then ((spec_l20Rd_pick.f k b bt136.2 4).bind fun bt139 => (if bt139.1 = 0 then (some (rd y133 bt136.1, S, L, M, bt139.2)) else (if bt139.1 = 1 then (some (N, wrap64 ((rd y133 bt136.1) * 7), L, M, bt139.2)) else (if bt139.1 = 2 then (some (N, S, rd y133 bt136.1, M, bt139.2)) else (some (N, S, L, rd y133 bt136.1, bt139.2)))))) else (none)) else (none)))))) r → Ev (fun k => spec_l20Agg.l0 k n i b p N S L M) r := fun h => Ev_eq h (fun k => by
      simp only [spec_l20Agg.l0]
      rw [if_neg hi0])
    by_cases h1 : v1 > 0
    · refine ⟨?_, step (Ev.bind e1 ?e), ?_, ?_, ?_⟩
      case e =>
        simp only [if_pos h1]
        exact Ev.now _
      · exact .inl (by simp only; omega)
      · simp only; omega
      · simp only; omega
    · obtain ⟨v2, e2, a2, b2⟩ := pick_ev hb (p := p + 1) (by omega) (n := 6) (by omega)
      obtain ⟨v3, e3, a3, b3⟩ := pick_ev hb (p := p + 1 + 1) (by omega) (n := 4) (by omega)
      have l2 : v2 < (([(-1), 0, 1, 10, 1001, (-10)] : List Int).length : Int) := by simpa using b2
      have hm : rd [(-1), 0, 1, 10, 1001, (-10)] v2 ≤ 10 ∨ rd [(-1), 0, 1, 10, 1001, (-10)] v2 = 1001 := by
        have hm := rdlit [(-1), 0, 1, 10, 1001, (-10)] v2 a2 l2
        simp only [List.mem_cons, List.mem_nil_iff, or_false] at hm
        omega
      by_cases h30 : v3 = 0
      · refine ⟨?_, step (Ev.bind e1 ?e), ?_, ?_, ?_⟩
        case e =>
          simp only [if_neg h1, Option.bind_some]
          refine Ev.bind e2 ?_
          simp only [if_pos a2, if_pos l2]
          refine Ev.bind e3 ?_
          simp only [if_pos h30]
          exact Ev.now _
        · exact hm
        · simp only; omega
        · simp only; omega
      · by_cases h31 : v3 = 1
        · refine ⟨?_, step (Ev.bind e1 ?e), ?_, ?_, ?_⟩
          case e =>
            simp only [if_neg h1, Option.bind_some]
            refine Ev.bind e2 ?_
            simp only [if_pos a2, if_pos l2]
            refine Ev.bind e3 ?_
            simp only [if_neg h30, if_pos h31]
            exact Ev.now _
          · exact .inl (by simp only; omega)
          · simp only; omega
          · simp only; omega
        · by_cases h32 : v3 = 2
          · refine ⟨?_, step (Ev.bind e1 ?e), ?_, ?_, ?_⟩
            case e =>
              simp only [if_neg h1, Option.bind_some]
              refine Ev.bind e2 ?_
              simp only [if_pos a2, if_pos l2]
              refine Ev.bind e3 ?_
              simp only [if_neg h30, if_neg h31, if_pos h32]
              exact Ev.now _
            · exact .inl (by simp only; omega)
            · simp only; omega
            · simp only; omega
          · refine ⟨?_, step (Ev.bind e1 ?e), ?_, ?_, ?_⟩
            case e =>
              simp only [if_neg h1, Option.bind_some]
              refine Ev.bind e2 ?_
              simp only [if_pos a2, if_pos l2]
              refine Ev.bind e3 ?_
              simp only [if_neg h30, if_neg h31, if_neg h32]
              exact Ev.now _
            · exact .inl (by simp only; omega)
            · simp only; omega
            · simp only; omega
  | succ d ih =>
    intro i p N S L M hi hN hN0 hp0 hp1
    have hi0 : i > 0 := by omega
    obtain ⟨v1, e1, a1, b1⟩ := pick_ev hb (p := p) (by omega) (n := 19) (by omega)
    have hb1 : (both (N, S, L, M) (1, wrap64 (v1 - 9), wrap64 (v1 - 9), wrap64 (v1 - 9))).1 = N + 1 := by
      unfold both
      simp only
      split
      · simp only; omega
      · rw [if_neg (by decide)]
        simp only
        exact wrap_id (by omega) (by omega)
    generalize hB : both (N, S, L, M) (1, wrap64 (v1 - 9), wrap64 (v1 - 9), wrap64 (v1 - 9)) = B at hb1
    obtain ⟨B0, B1, B2, B3⟩ := B
    simp only at hb1
    obtain ⟨r, hr, hr1, hr2, hr3⟩ := ih (i - 1) (p + 1) B0 B1 B2 B3 (by omega) (by omega) (by omega) (by omega) (by omega)
    refine ⟨r, ?_, hr1, by omega, by omega⟩
    refine Ev_eq (f := fun k => (spec_l20Rd_pick.f k b p 19).bind fun bt125 => ((spec_AggAdd.f N S L M (wrap64 (bt125.1 - 9))).bind fun bt127 => (spec_l20Agg.l0 k n (wrap64 (i - 1)) b bt125.2 bt127.1 bt127.2.1 bt127.2.2.1 bt127.2.2.2))) ?_ (fun k => by
      simp only [spec_l20Agg.l0]
      rw [if_pos hi0])
    refine Ev.bind e1 ?_
    simp only [specAdd_is, Option.bind_some, hB]
    rw [wrap_id (x := i - 1) (by omega) (by omega)]
    exact hr
theorem agg_ev {b : List Int} (hb : Code b) {n : Int} (hn : 1 ≤ n) {p : Int} (hp : 0 ≤ p ∧ p ≤ 999990000) : ∃ N S L M q, Ev (fun k => spec_l20Agg.f k b p n) (N, S, L, M, q) ∧ (N ≤ 10 ∨ N = 1001) ∧ p ≤ q ∧ q ≤ p + 10 := by
  obtain ⟨v1, e1, a1, b1⟩ := pick_ev hb (p := p) (by omega) (n := 6) (by omega)
  obtain ⟨⟨N, S, L, M, q⟩, hr, hr1, hr2, hr3⟩ := agg_loop hb n hn v1.toNat v1 (p + 1) 0 0 0 0 (by omega) (by omega) (by omega) (by omega) (by omega)
  refine ⟨N, S, L, M, q, ?_, hr1, by simp only at hr2; omega, by simp only at hr3; omega⟩
  unfold spec_l20Agg.f
  exact Ev.bind e1 hr
theorem ite_ex {α : Type} {R : α → Prop} {c : Prop} [Decidable c] {f g : Nat → Option α} (h1 : c → ∃ r, Ev f r ∧ R r) (h2 : ¬ c → ∃ r, Ev g r ∧ R r) : ∃ r, Ev (fun k => if c then f k else g k) r ∧ R r := by
  by_cases h : c
  · simp only [if_pos h]
    exact h1 h
  · simp only [if_neg h]
    exact h2 h
theorem bind_ex {α β : Type} {R : β → Prop} {f : Nat → Option α} {a : α} (h : Ev f a) {g : Nat → α → Option β} (hg : ∃ r, Ev (fun k => g k a) r ∧ R r) : ∃ r, Ev (fun k => (f k).bind (g k)) r ∧ R r := by
  obtain ⟨r, hr, h2⟩ := hg
  exact ⟨r, Ev.bind h hr, h2⟩
theorem step_ex {α : Type} {R : α → Prop} {g f : Nat → Option α} (h : ∀ k, g (k + 1) = f k) (hf : ∃ r, Ev f r ∧ R r) : ∃ r, Ev g r ∧ R r := by
  obtain ⟨r, hr, h2⟩ := hf
  exact ⟨r, Ev.step h hr, h2⟩
theorem now_ex {α : Type} {R : α → Prop} (r : α) (h : R r) : ∃ r, Ev (fun _ => some r) r ∧ R r := ⟨r, Ev.now r, h⟩
theorem pane1_ev {b : List Int} (hb : Code b) {n : Int} (hn : 1 ≤ n) {p : Int} (hp : 0 ≤ p ∧ p ≤ 999980000) (y0 y1 y2 y3 y4 y5 y6 y7 y8 : Int) : ∃ r : Int × Int × Int × Int × Int × Int × Int × Int × Int × Int, Ev (fun k => spec_l20Pane.j1 k n b p y0 y1 y2 y3 y4 y5 y6 y7 y8) r ∧ (p ≤ r.2.2.2.2.2.2.2.2.2 ∧ r.2.2.2.2.2.2.2.2.2 ≤ p + 12) := by
  obtain ⟨v1, e1, a1, b1⟩ := pick_ev hb (p := p) (by omega) (n := n) hn
  refine step_ex (f := fun k => _) (fun k => by simp only [spec_l20Pane.j1]; rfl) ?_
  refine bind_ex e1 ?_
  refine ite_ex (fun _ => ?_) (fun _ => ?_)
  · exact ⟨_, Ev.now _, by first | omega | (simp only; omega) | (simp; omega)⟩
  obtain ⟨v2, e2, a2, b2⟩ := pick_ev hb (p := p + 1) (by omega) (n := 5) (by omega)
  refine bind_ex e2 ?_
  refine ite_ex (fun _ => ?_) (fun _ => ite_ex (fun _ => ?_) (fun _ => ite_ex (fun _ => ?_) (fun _ => ite_ex (fun _ => ?_) (fun _ => ?_))))
  · obtain ⟨v3, e3, a3, b3⟩ := pick_ev hb (p := p + 1 + 1) (by omega) (n := 2) (by omega)
    have l3 : v3 < (([(-1), 4] : List Int).length : Int) := by simpa using b3
    simp only [Option.bind_some]
    refine bind_ex e3 ?_
    simp only [if_pos a3, if_pos l3]
    exact ⟨_, Ev.now _, by first | omega | (simp only; omega) | (simp; omega)⟩
  · obtain ⟨s, t, q, e3, a3, b3⟩ := win_ev hb (p := p + 1 + 1) (by omega) (n := 1) (by omega)
    refine bind_ex e3 ?_
    exact ⟨_, Ev.now _, by first | omega | (simp only; omega) | (simp; omega)⟩
  · obtain ⟨v3, e3, a3, b3⟩ := pick_ev hb (p := p + 1 + 1) (by omega) (n := 5) (by omega)
    have l3 : v3 < (([(-1), 0, 1, 1500, 1501] : List Int).length : Int) := by simpa using b3
    simp only [Option.bind_some]
    refine bind_ex e3 ?_
    simp only [if_pos a3, if_pos l3]
    exact ⟨_, Ev.now _, by first | omega | (simp only; omega) | (simp; omega)⟩
  · obtain ⟨v3, e3, a3, b3⟩ := pick_ev hb (p := p + 1 + 1) (by omega) (n := 5) (by omega)
    refine bind_ex e3 ?_
    exact ⟨_, Ev.now _, by first | omega | (simp only; omega) | (simp; omega)⟩
  · obtain ⟨N, S, L, M, q, e3, _, a3, b3⟩ := agg_ev hb (n := 1) (by omega) (p := p + 1 + 1) (by omega)
    refine bind_ex e3 ?_
    exact ⟨_, Ev.now _, by first | omega | (simp only; omega) | (simp; omega)⟩
theorem pane0_ev {b : List Int} (hb : Code b) {n : Int} (hn : 1 ≤ n) {p : Int} (hp : 0 ≤ p ∧ p ≤ 999970000) (y0 y1 y2 y3 y4 y5 y6 y7 y8 : Int) : ∃ r : Int × Int × Int × Int × Int × Int × Int × Int × Int × Int, Ev (fun k => spec_l20Pane.j0 k n b p y0 y1 y2 y3 y4 y5 y6 y7 y8) r ∧ (p ≤ r.2.2.2.2.2.2.2.2.2 ∧ r.2.2.2.2.2.2.2.2.2 ≤ p + 14) := by
  obtain ⟨v1, e1, a1, b1⟩ := pick_ev hb (p := p) (by omega) (n := 5) (by omega)
  refine step_ex (f := fun k => _) (fun k => by simp only [spec_l20Pane.j0]; rfl) ?_
  refine bind_ex e1 ?_
  refine ite_ex (fun _ => ?_) (fun _ => ?_)
  · obtain ⟨v2, e2, a2, b2⟩ := pick_ev hb (p := p + 1) (by omega) (n := 3) (by omega)
    refine bind_ex e2 ?_
    obtain ⟨r, hr, c1, c2⟩ := pane1_ev hb hn (p := p + 1 + 1) (by omega) y0 y1 y2 (wrap64 (1 + v2)) 3 0 0 0 0
    exact ⟨r, hr, by omega, by omega⟩
  · obtain ⟨r, hr, c1, c2⟩ := pane1_ev hb hn (p := p + 1) (by omega) y0 y1 y2 y3 y4 y5 y6 y7 y8
    exact ⟨r, hr, by omega, by omega⟩
theorem pane_ev {b : List Int} (hb : Code b) {n : Int} (hn : 1 ≤ n) {p : Int} (hp : 0 ≤ p ∧ p ≤ 999960000) : ∃ r : Int × Int × Int × Int × Int × Int × Int × Int × Int × Int, Ev (fun k => spec_l20Pane.f k b p n) r ∧ (p ≤ r.2.2.2.2.2.2.2.2.2 ∧ r.2.2.2.2.2.2.2.2.2 ≤ p + 40) := by
  obtain ⟨v1, e1, a1, b1⟩ := pick_ev hb (p := p) (by omega) (n := 3) (by omega)
  obtain ⟨v2, e2, a2, b2⟩ := pick_ev hb (p := p + 1) (by omega) (n := 3) (by omega)
  obtain ⟨N, S, L, M, q, e3, _, a3, b3⟩ := agg_ev hb (n := 99) (by omega) (p := p + 1 + 1) (by omega)
  obtain ⟨v4, e4, a4, b4⟩ := pick_ev hb (p := q) (by omega) (n := 19) (by omega)
  obtain ⟨v5, e5, a5, b5⟩ := pick_ev hb (p := q + 1) (by omega) (n := 2) (by omega)
  unfold spec_l20Pane.f
  refine bind_ex e1 ?_
  simp only [Option.bind_some]
  refine bind_ex e2 ?_
  refine ite_ex (fun _ => ?_) (fun h => absurd a2 h)
  refine ite_ex (fun _ => ?_) (fun h => absurd (by simpa using b2) h)
  refine bind_ex e3 (bind_ex e4 ?_)
  simp only [specAdd_is, Option.bind_some]
  refine bind_ex e5 ?_
  refine ite_ex (fun _ => ?_) (fun _ => ?_)
  · obtain ⟨v6, e6, a6, b6⟩ := pick_ev hb (p := q + 1 + 1) (by omega) (n := 3) (by omega)
    refine bind_ex e6 ?_
    obtain ⟨r, hr, c1, c2⟩ := pane0_ev hb hn (p := q + 1 + 1 + 1) (by omega) _ _ _ _ _ _ _ _ _
    exact ⟨r, hr, by omega, by omega⟩
  · obtain ⟨r, hr, c1, c2⟩ := pane0_ev hb hn (p := q + 1 + 1) (by omega) _ _ _ _ _ _ _ _ _
    exact ⟨r, hr, by omega, by omega⟩
theorem panes_loop {b : List Int} (hb : Code b) (d : Nat) : ∀ (l : List S89) (i p : Int), i = d → (l.length : Int) + i ≤ 8 → 0 ≤ p → p + i * 40 ≤ 999950000 → ∃ r : List S89 × Int, Ev (fun k => spec_l20Panes.l0 k l i b p) r ∧ (r.1.length ≤ 8 ∧ p ≤ r.2 ∧ r.2 ≤ p + i * 40) := by
  induction d with
  | zero =>
    intro l i p hi hl _ _
    exact ⟨(l, p), Ev_now1 (fun k => by simp only [spec_l20Panes.l0]; rw [if_neg (by omega)]), by simp only; omega⟩
  | succ d ih =>
    intro l i p hi hl hp0 hp1
    obtain ⟨⟨x0, x1, x2, x3, x4, x5, x6, x7, x8, q⟩, e1, a1, b1⟩ := pane_ev hb (p := p) (by omega) (n := 30) (by omega)
    simp only at a1 b1
    obtain ⟨r, hr, c1, c2, c3⟩ := ih (l ++ [⟨x0, ⟨x1, x2⟩, x3, x4, ⟨x5, x6, x7, x8⟩⟩]) (i - 1) q (by omega) (by simp; omega) (by omega) (by omega)
    refine step_ex (f := fun k => _) (fun k => by simp only [spec_l20Panes.l0]; rfl) ?_
    refine ite_ex (fun _ => ?_) (fun h => absurd (show i > 0 by omega) h)
    refine bind_ex e1 ?_
    simp only
    rw [wrap_id (x := i - 1) (by omega) (by omega)]
    refine ite_ex (fun _ => ⟨r, hr, c1, by omega, by omega⟩) (fun h => absurd (show l.length < 1954687338268 by omega) h)
theorem panes_ev {b : List Int} (hb : Code b) {p : Int} (hp : 0 ≤ p ∧ p ≤ 999940000) : ∃ r : List S89 × Int, Ev (fun k => spec_l20Panes.f k b p) r ∧ (r.1.length ≤ 8 ∧ p ≤ r.2 ∧ r.2 ≤ p + 400) := by
  obtain ⟨v1, e1, a1, b1⟩ := pick_ev hb (p := p) (by omega) (n := 9) (by omega)
  obtain ⟨r, hr, c1, c2, c3⟩ := panes_loop hb v1.toNat [] v1 (p + 1) (by omega) (by simp; omega) (by omega) (by omega)
  unfold spec_l20Panes.f
  refine bind_ex e1 ?_
  exact ⟨r, hr, c1, by omega, by omega⟩
/-- A row of a key and window. -/
def isOf (key a b : Int) (x : S67) : Bool := decide (x.f0 = key) && (x.f1.f0 == a && (x.f1.f1 == b))
theorem out_spec (l : List S67) (key a b : Int) (hl : l.length ≤ 1048576) : Ev (fun k => spec_TabOut.f k l key a b) (l.filter fun x => !isOf key a b x) := by
  have h := loop (fun k s i => spec_TabOut.l0 k l key s i a b) l.length (fun j s => s.length ≤ j ∧ s = (l.take j).filter fun x => !isOf key a b x) (fun r => r = l.filter fun x => !isOf key a b x)
    (fun j s hj hi => by
      obtain ⟨h1, h2⟩ := hi
      have ht : (l.take (j + 1)).filter (fun x => !isOf key a b x) = s ++ (if isOf key a b l[j] = true then [] else [l[j]]) := by
        rw [List.take_succ_eq_append_getElem hj, List.filter_append, h2]
        congr 1
        cases h : isOf key a b l[j] <;> simp [h]
      by_cases h : isOf key a b l[j] = true
      · rw [if_pos h, List.append_nil] at ht
        refine .inl ⟨s, ⟨by omega, ht.symm⟩, fun r hr => Ev_eq hr (fun k => ?_)⟩
        simp only [spec_TabOut.l0]
        rw [if_pos (by omega), if_pos (by omega), rd67_at l j hj, wrap_nat hj (by omega)]
        unfold isOf at h
        simp only [Bool.and_eq_true, decide_eq_true_eq, beq_iff_eq] at h
        rw [if_pos h.1, if_neg (by simp [h.2])]
      · rw [if_neg h] at ht
        refine .inl ⟨s ++ [l[j]], ⟨by simp; omega, ht.symm⟩, fun r hr => Ev_eq hr (fun k => ?_)⟩
        simp only [spec_TabOut.l0]
        rw [if_pos (by omega), if_pos (by omega), rd67_at l j hj, wrap_nat hj (by omega)]
        unfold isOf at h
        by_cases h3 : l[j].f0 = key
        · rw [if_pos h3, if_pos (by simp [h3] at h; simp; omega), if_pos (by omega)]
        · rw [if_neg h3, if_pos (by omega)])
    (fun s hs => ⟨s, Ev_now1 (fun k => by simp only [spec_TabOut.l0]; rw [if_neg (by omega)]), by rw [hs.2, List.take_length]⟩) [] ⟨by simp, by simp⟩
  obtain ⟨r, hr, rfl⟩ := h
  exact hr
theorem find_ev (l : List S67) (key a b : Int) (hl : l.length ≤ 1048576) : ∃ r : Int × Int × Int × Int × Bool, Ev (fun k => spec_TabFind.f k l key a b) r ∧ True := by
  refine loop (fun k (_ : Unit) i => spec_TabFind.l0 k l key i a b) l.length (fun _ _ => True) (fun _ => True) (fun j s hj _ => ?_) (fun s _ => ⟨_, Ev_now1 (fun k => by simp only [spec_TabFind.l0]; rw [if_neg (by omega)]), trivial⟩) () trivial
  by_cases h : l[j].f0 = key
  · by_cases h2 : (l[j].f1.f0 == a && (l[j].f1.f1 == b)) = true
    · exact .inr ⟨_, Ev_now1 (fun k => by simp only [spec_TabFind.l0]; rw [if_pos (by omega), if_pos (by omega), rd67_at l j hj, if_pos h, if_pos h2]), trivial⟩
    · exact .inl ⟨(), trivial, fun r hr => Ev_eq hr (fun k => by simp only [spec_TabFind.l0]; rw [if_pos (by omega), if_pos (by omega), rd67_at l j hj, if_pos h, if_neg h2, wrap_nat hj (by omega)])⟩
  · exact .inl ⟨(), trivial, fun r hr => Ev_eq hr (fun k => by simp only [spec_TabFind.l0]; rw [if_pos (by omega), if_pos (by omega), rd67_at l j hj, if_neg h, wrap_nat hj (by omega)])⟩
theorem ahead_tot (a b c d e f : Int) : ∃ r, spec_l5Ahead.f a b c d e f = some r := by
  unfold spec_l5Ahead.f spec_l2Less.f
  split
  · split <;> exact ⟨_, rfl⟩
  · exact ⟨_, rfl⟩
theorem put_ev (l : List S67) (a0 a1 a2 a3 a4 a5 a6 : Int) (hl : l.length ≤ 1048576) : ∃ r : List S67, Ev (fun k => spec_TabPut.f k l a0 a1 a2 a3 a4 a5 a6) r ∧ r.length ≤ l.length + 1 := by
  unfold spec_TabPut.f
  have h1 := out_spec l a0 a1 a2 hl
  have h2 : (l.filter fun x => !isOf a0 a1 a2 x).length ≤ l.length := List.length_filter_le _ _
  refine bind_ex h1 ?_
  generalize (l.filter fun x => !isOf a0 a1 a2 x) = m at h2
  obtain ⟨r, hr, h3⟩ := loop (fun k (s : List S67 × Bool) i => spec_TabPut.l0 k m s.1 s.2 i a0 a1 a2 a3 a4 a5 a6) m.length (fun j s => s.1.length ≤ j + 1 ∧ (s.2 = false → s.1.length ≤ j)) (fun r => r.length ≤ m.length + 1)
    (fun j s hj hi => by
      obtain ⟨s, f⟩ := s
      obtain ⟨i1, i2⟩ := hi
      simp only at i1 i2
      obtain ⟨b, hb⟩ := ahead_tot a0 a1 a2 m[j].f0 m[j].f1.f0 m[j].f1.f1
      cases f with
      | true =>
        refine .inl ⟨(s ++ [m[j]], true), ⟨by simp; omega, by simp⟩, fun r hr => Ev_eq hr (fun k => ?_)⟩
        simp only [spec_TabPut.l0]
        rw [if_pos (by omega), if_pos trivial, if_pos (by omega), if_pos (by omega), rd67_at m j hj, wrap_nat hj (by omega)]
      | false =>
        have i3 := i2 rfl
        cases b with
        | true =>
          refine .inl ⟨((s ++ [⟨a0, ⟨a1, a2⟩, ⟨a3, a4, a5, a6⟩⟩]) ++ [m[j]], true), ⟨by simp; omega, by simp⟩, fun r hr => Ev_eq hr (fun k => ?_)⟩
          simp only [spec_TabPut.l0]
          rw [if_pos (by omega), if_neg (by simp), if_pos (by omega), rd67_at m j hj, hb]
          simp only [Option.bind_some, if_true]
          rw [if_pos (by omega), if_pos (by simp; omega), wrap_nat hj (by omega)]
        | false =>
          refine .inl ⟨(s ++ [m[j]], false), ⟨by simp; omega, by simp; omega⟩, fun r hr => Ev_eq hr (fun k => ?_)⟩
          simp only [spec_TabPut.l0]
          rw [if_pos (by omega), if_neg (by simp), if_pos (by omega), rd67_at m j hj, hb]
          simp only [Option.bind_some]
          rw [if_neg (by simp), if_pos (by omega), wrap_nat hj (by omega)])
    (fun s hi => by
      obtain ⟨s, f⟩ := s
      obtain ⟨i1, i2⟩ := hi
      simp only at i1 i2
      cases f with
      | true => exact ⟨s, Ev_now1 (fun k => by simp only [spec_TabPut.l0]; rw [if_neg (by omega), if_pos trivial]), i1⟩
      | false => exact ⟨s ++ [⟨a0, ⟨a1, a2⟩, ⟨a3, a4, a5, a6⟩⟩], Ev_now1 (fun k => by simp only [spec_TabPut.l0]; rw [if_neg (by omega), if_neg (by simp), if_pos (by omega)]), by have := i2 rfl; simp; omega⟩)
    ([], false) ⟨by simp, by simp⟩
  exact ⟨r, hr, by omega⟩
theorem tabof_ev (l : List S89) (c : Bool) (hl : l.length ≤ 1000) : ∃ r : List S67, Ev (fun k => spec_TabOf.f k l c) r ∧ r.length ≤ l.length := by
  refine loop (fun k (s : List S67) i => spec_TabOf.l0 k l c s i) l.length (fun j s => s.length ≤ j) (fun r => r.length ≤ l.length) (fun j s hj hi => ?_) (fun s hs => ⟨s, Ev_now1 (fun k => by simp only [spec_TabOf.l0]; rw [if_neg (by omega)]), hs⟩) [] (by simp)
  by_cases h3 : l[j].f3 = 3
  · have e := out_spec s l[j].f0 l[j].f1.f0 l[j].f1.f1 (by omega)
    refine .inl ⟨s.filter fun x => !isOf l[j].f0 l[j].f1.f0 l[j].f1.f1 x, Nat.le_trans (List.length_filter_le _ _) (by omega), fun r hr => ?_⟩
    exact Ev.step (fun k => by simp only [spec_TabOf.l0]; rw [if_pos (by omega), if_pos (by omega), rd89_at l j hj, if_pos h3, wrap_nat hj (by omega)]) (Ev.bind e hr)
  · cases c with
    | true =>
      obtain ⟨⟨x0, x1, x2, x3, x4⟩, e1, _⟩ := find_ev s l[j].f0 l[j].f1.f0 l[j].f1.f1 (by omega)
      obtain ⟨t, e2, h2⟩ := put_ev s l[j].f0 l[j].f1.f0 l[j].f1.f1 (both (x0, x1, x2, x3) (l[j].f4.f0, l[j].f4.f1, l[j].f4.f2, l[j].f4.f3)).1 (both (x0, x1, x2, x3) (l[j].f4.f0, l[j].f4.f1, l[j].f4.f2, l[j].f4.f3)).2.1 (both (x0, x1, x2, x3) (l[j].f4.f0, l[j].f4.f1, l[j].f4.f2, l[j].f4.f3)).2.2.1 (both (x0, x1, x2, x3) (l[j].f4.f0, l[j].f4.f1, l[j].f4.f2, l[j].f4.f3)).2.2.2 (by omega)
      refine .inl ⟨t, by omega, fun r hr => ?_⟩
      refine Ev.step (fun k => by simp only [spec_TabOf.l0]; rw [if_pos (by omega), if_pos (by omega), rd89_at l j hj, if_neg h3, if_pos trivial, wrap_nat hj (by omega)]) (Ev.bind e1 ?_)
      simp only [specBoth_is, Option.bind_some]
      exact Ev.bind e2 hr
    | false =>
      obtain ⟨t, e2, h2⟩ := put_ev s l[j].f0 l[j].f1.f0 l[j].f1.f1 l[j].f4.f0 l[j].f4.f1 l[j].f4.f2 l[j].f4.f3 (by omega)
      refine .inl ⟨t, by omega, fun r hr => ?_⟩
      exact Ev.step (fun k => by simp only [spec_TabOf.l0]; rw [if_pos (by omega), if_pos (by omega), rd89_at l j hj, if_neg h3, if_neg (by simp), wrap_nat hj (by omega)]) (Ev.bind e2 hr)
theorem rows_ev {b : List Int} (hb : Code b) {p : Int} (hp : 0 ≤ p ∧ p ≤ 999930000) : ∃ r : List S67 × Int, Ev (fun k => spec_l20Rows.f k b p) r ∧ (r.1.length ≤ 9 ∧ p ≤ r.2 ∧ r.2 ≤ p + 500) := by
  obtain ⟨⟨g, q⟩, e1, c1, c2, c3⟩ := panes_ev hb (p := p) (by omega)
  simp only at c1 c2 c3
  obtain ⟨v2, e2, a2, b2⟩ := pick_ev hb (p := q) (by omega) (n := 2) (by omega)
  obtain ⟨t, e3, h3⟩ := tabof_ev g (v2 == 0) (by omega)
  obtain ⟨v4, e4, a4, b4⟩ := pick_ev hb (p := q + 1) (by omega) (n := 8) (by omega)
  unfold spec_l20Rows.f
  refine bind_ex e1 (bind_ex e2 (bind_ex e3 (bind_ex e4 ?_)))
  refine ite_ex (fun _ => ite_ex (fun h => ?_) (fun _ => ?_)) (fun _ => ?_)
  · refine ite_ex (fun _ => ite_ex (fun _ => ?_) (fun h => absurd (show t.length < 2513169434916 by omega) h)) (fun h' => absurd h h')
    exact ⟨_, Ev.now _, by simp only [List.length_append, List.length_cons, List.length_nil]; omega⟩
  · exact ⟨_, Ev.now _, by simp only; omega⟩
  · exact ⟨_, Ev.now _, by simp only; omega⟩
/-- What is told of a row that is found, or of none. -/
def told (o : Option S67) : Int × Int × Int × Int × Bool := match o with | some x => (x.f2.f0, x.f2.f1, x.f2.f2, x.f2.f3, true) | none => (0, 0, 0, 0, false)
theorem find_impl (l : List S67) (key a b : Int) : impl_TabFind.f l key a b = some (told (l.find? (impl_TabFind.is key a b))) := by
  unfold impl_TabFind.f told
  cases l.find? (impl_TabFind.is key a b) <;> rfl
theorem find_spec (l : List S67) (key a b : Int) (hl : l.length ≤ 1048576) : Ev (fun k => spec_TabFind.f k l key a b) (told (l.find? (impl_TabFind.is key a b))) := by
  have h := loop (fun k (_ : Unit) i => spec_TabFind.l0 k l key i a b) l.length (fun j _ => (l.take j).find? (impl_TabFind.is key a b) = none) (fun r => r = told (l.find? (impl_TabFind.is key a b)))
    (fun j s hj hi => by
      by_cases h : impl_TabFind.is key a b l[j] = true
      · refine .inr ⟨_, Ev_now1 (r := told (some l[j])) (fun k => ?_), ?_⟩
        · simp only [spec_TabFind.l0]
          rw [if_pos (by omega), if_pos (by omega), rd67_at l j hj]
          unfold impl_TabFind.is at h
          rw [Bool.and_eq_true, decide_eq_true_eq] at h
          rw [if_pos h.1, if_pos h.2]
          rfl
        · have hd : l = l.take j ++ (l[j] :: l.drop (j + 1)) := by rw [← List.drop_eq_getElem_cons hj, List.take_append_drop]
          congr 1
          conv => rhs; rw [hd]
          rw [List.find?_append, hi, List.find?_cons_of_pos h]
          rfl
      · refine .inl ⟨(), ?_, fun r hr => Ev_eq hr (fun k => ?_)⟩
        · rw [List.take_succ_eq_append_getElem hj, List.find?_append, hi, List.find?_cons_of_neg h]
          rfl
        · simp only [spec_TabFind.l0]
          rw [if_pos (by omega), if_pos (by omega), rd67_at l j hj, wrap_nat hj (by omega)]
          unfold impl_TabFind.is at h
          rw [Bool.and_eq_true, decide_eq_true_eq] at h
          by_cases h3 : l[j].f0 = key
          · rw [if_pos h3, if_neg (fun e => h ⟨h3, e⟩)]
          · rw [if_neg h3])
    (fun s hs => ⟨_, Ev_now1 (r := told none) (fun k => by simp only [spec_TabFind.l0]; rw [if_neg (by omega)]; rfl), by rw [List.take_length] at hs; rw [hs]⟩) () (by simp)
  obtain ⟨r, hr, rfl⟩ := h
  exact hr
theorem out_impl (l : List S67) (key a b : Int) (hl : l.length ≤ 1048576) : Ev (fun k => impl_TabOut.f k l key a b) (l.filter fun x => !isOf key a b x) := by
  have h := loop (fun k s i => impl_TabOut.l0 k key s l (l.length : Int) i a b) l.length (fun j s => s.length ≤ j ∧ s = (l.take j).filter fun x => !isOf key a b x) (fun r => r = l.filter fun x => !isOf key a b x)
    (fun j s hj hi => by
      obtain ⟨h1, h2⟩ := hi
      have ht : (l.take (j + 1)).filter (fun x => !isOf key a b x) = s ++ (if isOf key a b l[j] = true then [] else [l[j]]) := by
        rw [List.take_succ_eq_append_getElem hj, List.filter_append, h2]
        congr 1
        cases h : isOf key a b l[j] <;> simp [h]
      have ho : impl_TabRow_of.f l[j].f0 l[j].f1.f0 l[j].f1.f1 l[j].f2.f0 l[j].f2.f1 l[j].f2.f2 l[j].f2.f3 key a b = some (isOf key a b l[j]) := by
        unfold impl_TabRow_of.f isOf
        by_cases h3 : l[j].f0 = key
        · rw [if_pos h3, decide_eq_true h3]; rfl
        · rw [if_neg h3, decide_eq_false h3]; rfl
      by_cases h : isOf key a b l[j] = true
      · rw [if_pos h, List.append_nil] at ht
        refine .inl ⟨s, ⟨by omega, ht.symm⟩, fun r hr => Ev_eq hr (fun k => ?_)⟩
        simp only [impl_TabOut.l0]
        rw [if_pos (by omega), if_pos (by omega), if_pos (by omega), rd67_at l j hj, wrap_nat hj (by omega), ho, h]
        rfl
      · rw [if_neg h] at ht
        refine .inl ⟨s ++ [l[j]], ⟨by simp; omega, ht.symm⟩, fun r hr => Ev_eq hr (fun k => ?_)⟩
        simp only [impl_TabOut.l0]
        rw [if_pos (by omega), if_pos (by omega), if_pos (by omega), rd67_at l j hj, wrap_nat hj (by omega), ho]
        simp only [Option.bind_some]
        rw [if_neg h, if_pos (by omega)])
    (fun s hs => ⟨s, Ev_now1 (fun k => by simp only [impl_TabOut.l0]; rw [if_neg (by omega)]), by rw [hs.2, List.take_length]⟩) [] ⟨by simp, by simp⟩
  obtain ⟨r, hr, rfl⟩ := h
  exact hr
theorem frTab_ev (l : List S67) (hl : l.length ≤ 1048576) : Ev (fun k => laws_frTab.f k l l) true := by
  have h := loop (fun k (_ : Unit) i => laws_frTab.l0 k l l i) l.length (fun _ _ => True) (fun r => r = true)
    (fun j s hj _ => .inl ⟨(), trivial, fun r hr => Ev_eq hr (fun k => by
      simp only [laws_frTab.l0]
      rw [if_pos (by omega), if_pos (by omega), if_pos (by omega), wrap_nat hj (by omega)]
      simp)⟩)
    (fun s _ => ⟨true, Ev_now1 (fun k => by simp only [laws_frTab.l0]; rw [if_neg (by omega)]), rfl⟩) () trivial
  obtain ⟨r, hr, rfl⟩ := h
  unfold laws_frTab.f
  simp only [if_true]
  exact hr
theorem frOk_is : laws_frOk.f = some true := by decide +kernel
theorem found_is (l : List S67) (v a b : Int) : (told (l.find? (impl_TabFind.is v a b))).2.2.2.2 = decide (((l.filter fun x => !isOf v a b x).length : Int) < (l.length : Int)) := by
  induction l with
  | nil => rfl
  | cons x l ih =>
    have hle : (l.filter fun x => !isOf v a b x).length ≤ l.length := List.length_filter_le _ _
    by_cases h : isOf v a b x = true
    · have h' : impl_TabFind.is v a b x = true := h
      rw [List.find?_cons_of_pos h', List.filter_cons_of_neg (by simp [h])]
      symm
      apply decide_eq_true
      simp only [List.length_cons]
      omega
    · have h' : ¬ impl_TabFind.is v a b x = true := h
      rw [List.find?_cons_of_neg h', List.filter_cons_of_pos (by simp [h]), ih]
      apply decide_eq_decide.mpr
      simp only [List.length_cons]
      omega
theorem FnTabOut : laws_FnTabOut.Pure := by
  intro l _ _ hx
  apply Ev.rounds
  unfold laws_FnTabOut.f
  by_cases hl : (l.length : Int) > 1048576
  · simp only [if_pos hl]
    exact Ev.now _
  · simp only [if_neg hl]
    obtain ⟨b, ho, hb⟩ := open_ev (l := l) (by omega) hx
    obtain ⟨⟨g, q⟩, e1, c1, c2, c3⟩ := rows_ev hb (p := 0) (by omega)
    simp only at c1 c2 c3
    obtain ⟨v, e2, _, _⟩ := pick_ev hb (p := q) (by omega) (n := 3) (by omega)
    obtain ⟨v3, e3, a3, b3⟩ := pick_ev hb (p := q + 1) (by omega) (n := 3) (by omega)
    have hd : ∃ s t, Ev (fun k => spec_DrawTabOut.f k l) (g, v, s, t) := by
      have hw : ∃ w : S26, Ev (fun k => spec_DrawTabFind.f k l) (g, v, w.f0, w.f1) := by
        refine ⟨rd_T26 [(⟨0, 5⟩ : S26), (⟨5, 10⟩ : S26), (⟨3, 12⟩ : S26)] v3, ?_⟩
        unfold spec_DrawTabFind.f
        rw [ho]
        simp only [Option.bind_some]
        refine Ev.bind e1 (Ev.bind e2 (Ev.bind e3 ?_))
        simp only [if_pos a3, if_pos (show v3 < (([(⟨0, 5⟩ : S26), (⟨5, 10⟩ : S26), (⟨3, 12⟩ : S26)] : List S26).length : Int) by simpa using b3)]
        exact Ev.now _
      obtain ⟨w, hw⟩ := hw
      refine ⟨w.f0, w.f1, ?_⟩
      unfold spec_DrawTabOut.f
      exact Ev.bind hw (Ev.now _)
    obtain ⟨s, t, hd⟩ := hd
    have hg : g.length ≤ 1048576 := by omega
    have hle : (g.filter fun x => !isOf v s t x).length ≤ g.length := List.length_filter_le _ _
    have hf : (g.filter fun x => !isOf v s t x).length ≤ 1048576 := by omega
    refine Ev.bind hd (Ev.bind (out_impl g v s t hg) ?_)
    simp only [find_impl, Option.bind_some]
    refine Ev.bind (find_spec g v s t hg) (Ev.bind (out_spec g v s t hg) (Ev.bind (frTab_ev _ hf) ?_))
    simp only [if_true, beq_self_eq_true, Bool.not_true, Bool.or_self, Bool.false_eq_true, if_false, bne_self_eq_false]
    refine Ev.step (f := fun k => _) (fun k => by simp only [laws_FnTabOut.j0, Bool.false_eq_true, if_false]; rfl) ?_
    rw [found_is]
    generalize hP : (fun x => !isOf v s t x) = P
    rw [hP] at hf hle
    have hPx : ∀ x, P x = !isOf v s t x := fun x => by rw [← hP]
    have hstep : ∀ j (hj : j < g.length), (g.take (j + 1)).filter P = (g.take j).filter P ++ (if P g[j] = true then [g[j]] else []) := fun j hj => by
      rw [List.take_succ_eq_append_getElem hj, List.filter_append]
      congr 1
      cases h : P g[j] <;> simp [h]
    have hs := loop (fun k (z : Int) i => laws_FnTabOut.l0 k g v (g.filter P) (decide (((g.filter P).length : Int) < (g.length : Int))) z i s t) g.length (fun j z => z = (((g.take j).filter P).length : Int)) (fun z => z = true)
      (fun j z hj hi => by
        have ht := hstep j hj
        have hsplit : g.filter P = (g.take j).filter P ++ (g.drop j).filter P := by rw [← List.filter_append, List.take_append_drop]
        have hm : ((g.take j).filter P).length ≤ (g.filter P).length := by rw [hsplit, List.length_append]; omega
        refine .inl ⟨(((g.take (j + 1)).filter P).length : Int), rfl, fun y hy => ?_⟩
        refine Ev_eq (f := fun k => laws_FnTabOut.j2 k g v (g.filter P) (decide (((g.filter P).length : Int) < (g.length : Int))) z j (P g[j]) s t) ?_ (fun k => by
          simp only [laws_FnTabOut.l0]
          rw [if_pos (by omega), if_pos (by omega), rd67_at g j hj, hPx]
          unfold isOf
          by_cases h : g[j].f0 = v
          · rw [if_pos h, decide_eq_true h, Bool.true_and, Bool.not_and]
          · rw [if_neg h, decide_eq_false h, Bool.false_and]
            rfl)
        by_cases h : P g[j] = true
        · rw [if_pos h] at ht
          rw [ht, List.length_append] at hy
          have hlen : ((g.take j).filter P).length < (g.filter P).length := by
            rw [hsplit, List.length_append, List.drop_eq_getElem_cons hj, List.filter_cons_of_pos h]
            simp
          have hat : (g.filter P)[((g.take j).filter P).length]'hlen = g[j] := by
            simp only [hsplit, List.drop_eq_getElem_cons hj, List.filter_cons_of_pos h]
            rw [List.getElem_append_right (Nat.le_refl _)]
            simp
          refine Ev_eq hy (fun k => ?_)
          simp only [laws_FnTabOut.j2]
          rw [hi, if_pos h, if_neg (by omega), if_pos (by omega), if_pos (by omega), if_pos (by omega), if_pos (by omega), rd67_at g j hj, rd67_at _ _ hlen, hat, wrap_nat hj (by omega), wrap_nat hlen (by omega)]
          simp
        · rw [if_neg h, List.append_nil] at ht
          rw [ht] at hy
          refine Ev_eq hy (fun k => ?_)
          simp only [laws_FnTabOut.j2]
          rw [hi, if_neg h, wrap_nat hj (by omega)])
      (fun z hi => by
        rw [List.take_length] at hi
        refine ⟨true, Ev_now1 (fun k => ?_), rfl⟩
        simp only [laws_FnTabOut.l0]
        rw [if_neg (by omega), if_pos hi, hi, frOk_is]
        simp only [beq_self_eq_true, if_true, Option.bind_some]) 0 (by simp)
    obtain ⟨z, hz, rfl⟩ := hs
    exact hz

end Go.Proofs.Ytjclmjmbhhlbcaa.Pure
