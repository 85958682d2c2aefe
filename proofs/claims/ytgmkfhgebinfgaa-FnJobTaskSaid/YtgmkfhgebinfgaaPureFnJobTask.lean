/- The law FnJobTask over numbers and lists: the Lean function of it that was printed answers true. No condition but that each number is one of its kind. -/
import Derived.Test.YtgmkfhgebinfgaaQFnJobTaskx7
import Derived.Test.YtgmkfhgebinfgaaAid
set_option linter.unusedVariables false
set_option linter.unusedSimpArgs false
namespace Go.Proofs.Ytgmkfhgebinfgaa.Pure
open Go.RowKit Go.Proofs.Ytgmkfhgebinfgaa.PFnJobTask Go.Proofs.YtgmkfhgebinfgaaW.PrintWords Go.Proofs.YtgmkfhgebinfgaaW.PrintLast Go.Proofs.Ytgmkfhgebinfgaa.Aid

/-- A code that may be read: bytes, not too many. -/
def Code (b : List Int) : Prop := b.length ≤ 2000 ∧ ∀ x ∈ b, 0 ≤ x ∧ x ≤ 255
theorem code_rd {b : List Int} (hb : Code b) (i : Int) : 0 ≤ rd b i ∧ rd b i ≤ 255 := by
  unfold rd
  rw [List.getD_eq_getElem?_getD]
  rcases Nat.lt_or_ge i.toNat b.length with h | h
  · rw [List.getElem?_eq_getElem h]
    exact hb.2 _ (List.getElem_mem h)
  · rw [List.getElem?_eq_none h]
    exact ⟨Int.le_refl _, by decide⟩
theorem xor_pos (x y : Int) (hx : 0 ≤ x ∧ x < 4611686018427387904) (hy : 0 ≤ y ∧ y < 4611686018427387904) : 0 ≤ Go.bits .xor .i64 x y := by
  obtain ⟨a, rfl⟩ := Int.eq_ofNat_of_zero_le hx.1
  obtain ⟨b, rfl⟩ := Int.eq_ofNat_of_zero_le hy.1
  have ha : a < 2 ^ 62 := by omega
  have hb : b < 2 ^ 62 := by omega
  have ha' : a % 2 ^ IntKind.i64.bits = a := Nat.mod_eq_of_lt (Nat.lt_of_lt_of_le ha (by decide))
  have hb' : b % 2 ^ IntKind.i64.bits = b := Nat.mod_eq_of_lt (Nat.lt_of_lt_of_le hb (by decide))
  have hxr : a ^^^ b < 2 ^ 62 := Nat.xor_lt_two_pow ha hb
  simp only [Go.bits, BitVec.ofInt_natCast, BitVec.toNat_xor, BitVec.toNat_ofNat, ha', hb']
  rw [IntKind.wrap_i64]
  have : ((a ^^^ b : Nat) : Int) < 2 ^ 62 := by exact_mod_cast hxr
  omega
theorem tmod_in (x n : Int) (hx : 0 ≤ x) (hn : 1 ≤ n) : 0 ≤ Int.tmod x n ∧ Int.tmod x n < n :=
  ⟨Int.tmod_nonneg _ hx, Int.tmod_lt_of_pos _ (by omega)⟩
theorem pick_ev {b : List Int} (hb : Code b) {p : Int} (hp : 0 ≤ p ∧ p ≤ 1000000000) {n : Int} (hn : 1 ≤ n) : ∃ v, Ev (fun k => spec_l20Rd_pick.f k b p n) (v, p + 1) ∧ 0 ≤ v ∧ v < n := by
  have hl := hb.1
  have hw : wrap64 (p + 1) = p + 1 := wrap_id (by omega) (by omega)
  have hw2 : wrap64 (p + 1 - 1) = p := by rw [wrap_id (by omega) (by omega)]; omega
  have e0 : ∀ k, spec_l20Rd_pick.f k b p n = spec_l20Rd_pick.j0 k n ((b.length : Int) == 0) b (p + 1) := fun k => by
    unfold spec_l20Rd_pick.f
    rw [if_neg (by omega), hw]
  by_cases hz : b.length = 0
  · refine ⟨0, Ev.congr e0 (Ev_now1 (fun k => ?_)), by omega, by omega⟩
    simp only [spec_l20Rd_pick.j0]
    rw [if_pos (by simp [hz])]
  · have hz' : ((b.length : Int) == 0) = false := by simpa using hz
    have hlp : (1 : Int) ≤ (b.length : Int) := by omega
    rw [hz'] at e0
    by_cases h1 : p < (b.length : Int)
    · have hr := code_rd hb p
      have hwr : wrap64 (rd b p) = rd b p := wrap_id (by omega) (by omega)
      obtain ⟨t0, t1⟩ := tmod_in (rd b p) n hr.1 hn
      refine ⟨Int.tmod (rd b p) n, Ev.congr e0 (Ev_now1 (fun k => ?_)), t0, t1⟩
      simp only [spec_l20Rd_pick.j0]
      rw [if_neg (by simp), hw2, if_pos h1, if_pos hp.1, if_neg (by omega), hwr]
    · obtain ⟨t0, t1⟩ := tmod_in p (b.length : Int) hp.1 hlp
      have w7 : wrap64 (p * 7) = p * 7 := wrap_id (by omega) (by omega)
      have w73 : wrap64 (p * 7 + 3) = p * 7 + 3 := wrap_id (by omega) (by omega)
      obtain ⟨s0, s1⟩ := tmod_in (p * 7 + 3) (b.length : Int) (by omega) hlp
      have ra := code_rd hb (Int.tmod p (b.length : Int))
      have rb := code_rd hb (Int.tmod (p * 7 + 3) (b.length : Int))
      have hd0 : 0 ≤ Int.tdiv p (b.length : Int) := Int.tdiv_nonneg hp.1 (by omega)
      have hd1 : Int.tdiv p (b.length : Int) ≤ p := by
        rw [Int.tdiv_eq_ediv_of_nonneg hp.1]
        exact Int.ediv_le_self _ hp.1
      generalize hA : rd b (Int.tmod p (b.length : Int)) = A at ra
      generalize hB : rd b (Int.tmod (p * 7 + 3) (b.length : Int)) = B at rb
      generalize hD : Int.tdiv p (b.length : Int) = D at hd0 hd1
      have v1 : wrap64 A = A := wrap_id (by omega) (by omega)
      have v2 : wrap64 (A * 131) = A * 131 := wrap_id (by omega) (by omega)
      have v3 : wrap64 B = B := wrap_id (by omega) (by omega)
      have v4 : wrap64 (B * 1117) = B * 1117 := wrap_id (by omega) (by omega)
      have v5 : wrap64 (A * 131 + B * 1117) = A * 131 + B * 1117 := wrap_id (by omega) (by omega)
      have v6 : wrap64 (p * 29) = p * 29 := wrap_id (by omega) (by omega)
      have v7 : wrap64 (A * 131 + B * 1117 + p * 29) = A * 131 + B * 1117 + p * 29 := wrap_id (by omega) (by omega)
      have v8 : wrap64 D = D := wrap_id (by omega) (by omega)
      have v9 : wrap64 (D * 53) = D * 53 := wrap_id (by omega) (by omega)
      have v10 : wrap64 (A * 131 + B * 1117 + p * 29 + D * 53) = A * 131 + B * 1117 + p * 29 + D * 53 := wrap_id (by omega) (by omega)
      have hx0 : 0 ≤ A * 131 + B * 1117 + p * 29 + D * 53 ∧ A * 131 + B * 1117 + p * 29 + D * 53 < 4611686018427387904 := by omega
      generalize hX : A * 131 + B * 1117 + p * 29 + D * 53 = X at v10 hx0
      have hq0 : 0 ≤ Int.tdiv X 64 := Int.tdiv_nonneg hx0.1 (by omega)
      have hq1 : Int.tdiv X 64 ≤ X := by
        rw [Int.tdiv_eq_ediv_of_nonneg hx0.1]
        omega
      have v11 : wrap64 (Int.tdiv X 64) = Int.tdiv X 64 := wrap_id (by omega) (by omega)
      have hxor := xor_pos X (Int.tdiv X 64) hx0 ⟨hq0, by omega⟩
      obtain ⟨u0, u1⟩ := tmod_in _ n hxor hn
      refine ⟨Int.tmod (Go.bits .xor .i64 X (Int.tdiv X 64)) n, Ev.congr e0 (Ev_now1 (fun k => ?_)), u0, u1⟩
      simp only [spec_l20Rd_pick.j0]
      rw [if_neg (by simp), hw2, if_neg h1, if_neg (by omega), if_pos t0, if_pos t1]
      simp only [w7, w73]
      rw [if_pos s0, if_pos s1, if_neg (by omega)]
      simp only [hA, hB, hD, v1, v2, v3, v4, v5, v6, v7, v8, v9, v10, hX, v11]
theorem open_ev {l : List Int} (hl : l.length ≤ 1048576) (hb : ∀ x ∈ l, (Lit.int .u8 x).wf = true) : ∃ b, spec_l20Open.f l = some (b, 0) ∧ Code b := by
  have hx : ∀ x ∈ l, 0 ≤ x ∧ x ≤ 255 := fun x h => by
    have := hb x h
    simp only [Lit.wf, Bool.and_eq_true, decide_eq_true_eq] at this
    have a : IntKind.u8.min = 0 := by decide
    have b : IntKind.u8.max = 255 := by decide
    omega
  unfold spec_l20Open.f
  by_cases h : (l.length : Int) > 2000
  · rw [if_pos h, if_pos (by omega)]
    exact ⟨_, rfl, by simp; omega, fun x hm => hx x (List.mem_of_mem_take hm)⟩
  · rw [if_neg h]
    exact ⟨_, rfl, by omega, hx⟩
theorem rdlit (xs : List Int) (i : Int) (h0 : 0 ≤ i) (h1 : i < (xs.length : Int)) : rd xs i ∈ xs := by
  unfold rd
  have h : i.toNat < xs.length := by omega
  rw [List.getD_eq_getElem?_getD, List.getElem?_eq_getElem h]
  exact List.getElem_mem h
theorem ite_ex {α : Type} {R : α → Prop} {c : Prop} [Decidable c] {f g : Nat → Option α} (h1 : c → ∃ r, Ev f r ∧ R r) (h2 : ¬ c → ∃ r, Ev g r ∧ R r) : ∃ r, Ev (fun k => if c then f k else g k) r ∧ R r := by
  by_cases h : c
  · simp only [if_pos h]
    exact h1 h
  · simp only [if_neg h]
    exact h2 h
theorem bind_ex {α β : Type} {R : β → Prop} {f : Nat → Option α} {a : α} (h : Ev f a) {g : Nat → α → Option β} (hg : ∃ r, Ev (fun k => g k a) r ∧ R r) : ∃ r, Ev (fun k => (f k).bind (g k)) r ∧ R r := by
  obtain ⟨r, hr, h2⟩ := hg
  exact ⟨r, Ev.bind h hr, h2⟩
theorem step_ex {α : Type} {R : α → Prop} {g f : Nat → Option α} (h : ∀ k, g (k + 1) = f k) (hf : ∃ r, Ev f r ∧ R r) : ∃ r, Ev g r ∧ R r := by
  obtain ⟨r, hr, h2⟩ := hf
  exact ⟨r, Ev.step h hr, h2⟩
theorem now_ex {α : Type} {R : α → Prop} (r : α) (h : R r) : ∃ r, Ev (fun _ => some r) r ∧ R r := ⟨r, Ev.now r, h⟩
theorem job2_ev (b : List Int) (p : Int) (y0 y1 y2 y3 y4 y5 y6 : Int) (y7 : Bool) (y8 y9 : Int) : ∃ r : Int × Int × Int × Int × Int × Int × Int × Bool × Int × Int × Int, Ev (fun k => spec_l20Job.j2 k b p y0 y1 y2 y3 y4 y5 y6 y7 y8 y9) r ∧ r.2.2.2.2.2.2.2.2.2.2 = p := by
  refine step_ex (f := fun k => _) (fun k => by simp only [spec_l20Job.j2]; rfl) ?_
  exact ⟨_, Ev.now _, rfl⟩
theorem job1_ev (b : List Int) (p : Int) (y0 y1 y2 y3 y4 y5 y6 : Int) (y7 : Bool) (y8 y9 : Int) : ∃ r : Int × Int × Int × Int × Int × Int × Int × Bool × Int × Int × Int, Ev (fun k => spec_l20Job.j1 k b p y0 y1 y2 y3 y4 y5 y6 y7 y8 y9) r ∧ r.2.2.2.2.2.2.2.2.2.2 = p := by
  refine step_ex (f := fun k => _) (fun k => by simp only [spec_l20Job.j1]; rfl) ?_
  exact job2_ev b p y0 y1 y2 y3 y4 y5 y6 y7 y8 y9
theorem job0_ev (b : List Int) (p : Int) (c : Bool) (y0 y1 y2 y3 y4 y5 y6 : Int) (y7 : Bool) (y8 y9 : Int) : ∃ r : Int × Int × Int × Int × Int × Int × Int × Bool × Int × Int × Int, Ev (fun k => spec_l20Job.j0 k c b p y0 y1 y2 y3 y4 y5 y6 y7 y8 y9) r ∧ r.2.2.2.2.2.2.2.2.2.2 = p := by
  refine step_ex (f := fun k => _) (fun k => by simp only [spec_l20Job.j0]; rfl) ?_
  exact ite_ex (fun _ => job1_ev b p _ _ _ _ _ _ _ _ _ _) (fun _ => job1_ev b p _ _ _ _ _ _ _ _ _ _)
theorem job_ev {b : List Int} (hb : Code b) {p : Int} (hp : 0 ≤ p ∧ p ≤ 999900000) : ∃ r : Int × Int × Int × Int × Int × Int × Int × Bool × Int × Int × Int, Ev (fun k => spec_l20Job.f k b p) r ∧ (p ≤ r.2.2.2.2.2.2.2.2.2.2 ∧ r.2.2.2.2.2.2.2.2.2.2 ≤ p + 20) := by
  obtain ⟨v1, e1, a1, b1⟩ := pick_ev hb (p := p) (by omega) (n := 3) (by omega)
  obtain ⟨v2, e2, a2, b2⟩ := pick_ev hb (p := p + 1) (by omega) (n := 2) (by omega)
  obtain ⟨v3, e3, a3, b3⟩ := pick_ev hb (p := p + 1 + 1) (by omega) (n := 3) (by omega)
  obtain ⟨v4, e4, a4, b4⟩ := pick_ev hb (p := p + 1 + 1 + 1) (by omega) (n := 6) (by omega)
  obtain ⟨v5, e5, a5, b5⟩ := pick_ev hb (p := p + 1 + 1 + 1 + 1) (by omega) (n := 5) (by omega)
  obtain ⟨v6, e6, a6, b6⟩ := pick_ev hb (p := p + 1 + 1 + 1 + 1 + 1) (by omega) (n := 4) (by omega)
  obtain ⟨v7, e7, a7, b7⟩ := pick_ev hb (p := p + 1 + 1 + 1 + 1 + 1 + 1) (by omega) (n := 2) (by omega)
  obtain ⟨v8, e8, a8, b8⟩ := pick_ev hb (p := p + 1 + 1 + 1 + 1 + 1 + 1 + 1) (by omega) (n := 5) (by omega)
  obtain ⟨v9, e9, a9, b9⟩ := pick_ev hb (p := p + 1 + 1 + 1 + 1 + 1 + 1 + 1 + 1) (by omega) (n := 4) (by omega)
  unfold spec_l20Job.f
  refine bind_ex e1 (bind_ex e2 (bind_ex e3 ?_))
  simp only [Option.bind_some]
  refine bind_ex e4 ?_
  refine ite_ex (fun _ => ?_) (fun h => absurd a4 h)
  refine ite_ex (fun _ => ?_) (fun h => absurd (by simpa using b4) h)
  refine bind_ex e5 ?_
  refine ite_ex (fun _ => ?_) (fun h => absurd a5 h)
  refine ite_ex (fun _ => ?_) (fun h => absurd (by simpa using b5) h)
  refine bind_ex e6 (bind_ex e7 (bind_ex e8 ?_))
  refine ite_ex (fun _ => ?_) (fun h => absurd a8 h)
  refine ite_ex (fun _ => ?_) (fun h => absurd (by simpa using b8) h)
  refine bind_ex e9 ?_
  refine ite_ex (fun _ => ?_) (fun _ => ?_)
  · obtain ⟨v10, e10, a10, b10⟩ := pick_ev hb (p := p + 1 + 1 + 1 + 1 + 1 + 1 + 1 + 1 + 1) (by omega) (n := 4) (by omega)
    obtain ⟨v11, e11, a11, b11⟩ := pick_ev hb (p := p + 1 + 1 + 1 + 1 + 1 + 1 + 1 + 1 + 1 + 1) (by omega) (n := 4) (by omega)
    have hw : wrap64 (1 + v11) = 1 + v11 := wrap_id (by omega) (by omega)
    refine bind_ex e10 (bind_ex e11 ?_)
    refine ite_ex (fun h => absurd h (by simp only [hw]; omega)) (fun _ => ?_)
    refine ite_ex (fun _ => ?_) (fun _ => ite_ex (fun _ => ?_) (fun _ => ?_))
    all_goals
      obtain ⟨r, hr, h1⟩ := job0_ev b (p + 1 + 1 + 1 + 1 + 1 + 1 + 1 + 1 + 1 + 1 + 1) _ _ _ _ _ _ _ _ _ _ _
      exact ⟨r, hr, by omega, by omega⟩
  · obtain ⟨r, hr, h1⟩ := job2_ev b (p + 1 + 1 + 1 + 1 + 1 + 1 + 1 + 1 + 1) _ _ _ _ _ _ _ _ _ _
    exact ⟨r, hr, by omega, by omega⟩
theorem any0_ev (b : List Int) (p : Int) (y0 y1 y2 y3 y4 y5 y6 : Int) (y7 : Bool) (y8 y9 : Int) : ∃ r : Int × Int × Int × Int × Int × Int × Int × Bool × Int × Int × Int, Ev (fun k => spec_l20AnyJob.j0 k b p y0 y1 y2 y3 y4 y5 y6 y7 y8 y9) r ∧ r.2.2.2.2.2.2.2.2.2.2 = p := by
  refine step_ex (f := fun k => _) (fun k => by simp only [spec_l20AnyJob.j0]; rfl) ?_
  exact ⟨_, Ev.now _, rfl⟩
theorem anyjob_ev {b : List Int} (hb : Code b) {n : Int} (hn : 1 ≤ n) {p : Int} (hp : 0 ≤ p ∧ p ≤ 999800000) : ∃ r : Int × Int × Int × Int × Int × Int × Int × Bool × Int × Int × Int, Ev (fun k => spec_l20AnyJob.f k b p n) r ∧ (p ≤ r.2.2.2.2.2.2.2.2.2.2 ∧ r.2.2.2.2.2.2.2.2.2.2 ≤ p + 30) := by
  obtain ⟨⟨z0, z1, z2, z3, z4, z5, z6, z7, z8, z9, q⟩, e1, a1, b1⟩ := job_ev hb (p := p) (by omega)
  simp only at a1 b1
  obtain ⟨v2, e2, a2, b2⟩ := pick_ev hb (p := q) (by omega) (n := n) hn
  obtain ⟨v3, e3, a3, b3⟩ := pick_ev hb (p := q + 1) (by omega) (n := 8) (by omega)
  obtain ⟨v4, e4, a4, b4⟩ := pick_ev hb (p := q + 1 + 1) (by omega) (n := 9) (by omega)
  unfold spec_l20AnyJob.f
  refine bind_ex e1 (bind_ex e2 ?_)
  refine ite_ex (fun _ => ?_) (fun _ => ?_)
  · exact ⟨_, Ev.now _, by first | omega | (simp only; omega)⟩
  simp only [Option.bind_some]
  refine bind_ex e3 ?_
  refine ite_ex (fun _ => ?_) (fun h => absurd a3 h)
  refine ite_ex (fun _ => ?_) (fun h => absurd (by simpa using b3) h)
  refine bind_ex e4 ?_
  refine ite_ex (fun _ => ?_) (fun _ => ite_ex (fun _ => ?_) (fun _ => ite_ex (fun _ => ?_) (fun _ => ite_ex (fun _ => ?_) (fun _ => ite_ex (fun _ => ?_) (fun _ => ite_ex (fun _ => ?_) (fun _ => ite_ex (fun _ => ?_) (fun _ => ite_ex (fun _ => ?_) (fun _ => ?_))))))))
  · obtain ⟨r, hr, h1⟩ := any0_ev b (q + 1 + 1 + 1) _ _ _ _ _ _ _ _ _ _
    exact ⟨r, hr, by omega, by omega⟩
  · obtain ⟨r, hr, h1⟩ := any0_ev b (q + 1 + 1 + 1) _ _ _ _ _ _ _ _ _ _
    exact ⟨r, hr, by omega, by omega⟩
  · obtain ⟨r, hr, h1⟩ := any0_ev b (q + 1 + 1 + 1) _ _ _ _ _ _ _ _ _ _
    exact ⟨r, hr, by omega, by omega⟩
  · obtain ⟨r, hr, h1⟩ := any0_ev b (q + 1 + 1 + 1) _ _ _ _ _ _ _ _ _ _
    exact ⟨r, hr, by omega, by omega⟩
  · obtain ⟨r, hr, h1⟩ := any0_ev b (q + 1 + 1 + 1) _ _ _ _ _ _ _ _ _ _
    exact ⟨r, hr, by omega, by omega⟩
  · obtain ⟨r, hr, h1⟩ := any0_ev b (q + 1 + 1 + 1) _ _ _ _ _ _ _ _ _ _
    exact ⟨r, hr, by omega, by omega⟩
  · obtain ⟨r, hr, h1⟩ := any0_ev b (q + 1 + 1 + 1) _ _ _ _ _ _ _ _ _ _
    exact ⟨r, hr, by omega, by omega⟩
  · obtain ⟨r, hr, h1⟩ := any0_ev b (q + 1 + 1 + 1) _ _ _ _ _ _ _ _ _ _
    exact ⟨r, hr, by omega, by omega⟩
  · obtain ⟨r, hr, h1⟩ := any0_ev b (q + 1 + 1 + 1) _ _ _ _ _ _ _ _ _ _
    exact ⟨r, hr, by omega, by omega⟩
theorem Ev_two {α : Type} {g : Nat → Option α} {r : α} (h : ∀ k, g (k + 2) = some r) : Ev g r :=
  ⟨2, fun k hk => by
    obtain ⟨m, rfl⟩ : ∃ m, k = m + 2 := ⟨k - 2, by omega⟩
    exact h m⟩
/-- What a job must be. -/
def jobOk (a0 a1 a2 a3 a4 a5 a6 : Int) (a8 a9 : Int) : Bool :=
  decide (1 ≤ a0 ∧ a0 ≤ 3) && decide (1 ≤ a1 ∧ a1 ≤ 2) && decide (1 ≤ a2 ∧ a2 ≤ 3) && decide (1 ≤ a3 ∧ a3 ≤ 20) &&
  (if a2 = 2 then decide (1 ≤ a4 ∧ a4 ≤ a3) && decide (a3 ≤ wrap64 (4 * a4)) else decide (a4 = 0)) &&
  decide (0 ≤ a5 ∧ a5 ≤ 20) && decide (1 ≤ a6 ∧ a6 ≤ 4) && decide (-9 ≤ a8 ∧ a8 ≤ 9) && decide (1 ≤ a9 ∧ a9 ≤ 4)
theorem l1In_is (a b c : Int) : spec_l1In.f a b c = some (decide (b ≤ a ∧ a ≤ c)) := by
  unfold spec_l1In.f
  by_cases h : a ≥ b
  · have h' : b ≤ a := h
    simp [h, h']
  · have h' : ¬ b ≤ a := h
    simp [h']
theorem in_is (a b c : Int) : impl_in.f a b c = some (decide (b ≤ a ∧ a ≤ c)) := l1In_is a b c
theorem tells_is (a : Int) : impl_tells.f a = some (decide (1 ≤ a ∧ a ≤ 4)) := by
  unfold impl_tells.f
  rw [in_is]
  rfl
theorem specJobOk_is (k : Nat) (a0 a1 a2 a3 a4 a5 a6 : Int) (a7 : Bool) (a8 a9 : Int) : spec_JobOk.f (k + 2) a0 a1 a2 a3 a4 a5 a6 a7 a8 a9 = some (jobOk a0 a1 a2 a3 a4 a5 a6 a8 a9) := by
  unfold spec_JobOk.f jobOk
  simp only [l1In_is, Option.bind_some, spec_JobOk.j0, spec_JobOk.j1]
  by_cases h0 : 1 ≤ a0 ∧ a0 ≤ 3 <;> by_cases h1 : 1 ≤ a1 ∧ a1 ≤ 2 <;> by_cases h2 : 1 ≤ a2 ∧ a2 ≤ 3 <;> by_cases h3 : 1 ≤ a3 ∧ a3 ≤ 20 <;> simp only [h0, h1, h2, h3, decide_true, decide_false, if_true, Bool.not_true, Bool.not_false, Bool.false_and, Bool.and_false, Bool.true_and, and_self, Bool.false_eq_true, if_false]
  by_cases h5 : 0 ≤ a5 ∧ a5 ≤ 20 <;> by_cases h6 : 1 ≤ a6 ∧ a6 ≤ 4 <;> by_cases h8 : -9 ≤ a8 ∧ a8 ≤ 9 <;> simp only [h5, h6, h8, decide_true, decide_false, if_true, if_false, Bool.false_eq_true, Bool.and_false, Bool.false_and, Bool.and_true, Bool.true_and] <;>
  (by_cases h4 : a2 = 2
   · simp only [h4, if_true]
     by_cases h7 : 1 ≤ a4 ∧ a4 ≤ a3
     · simp only [h7, decide_true, if_true, and_self, Bool.true_and]
       by_cases h9 : a3 > wrap64 (4 * a4)
       · have h9' : ¬ a3 ≤ wrap64 (4 * a4) := by omega
         simp [h9, h9']
       · have h9' : a3 ≤ wrap64 (4 * a4) := by omega
         simp [h9, h9']
     · simp [h7]
   · by_cases h7 : a4 = 0 <;> simp [h4, h7])
theorem implJobOk_is (k : Nat) (a0 a1 a2 a3 a4 a5 a6 : Int) (a7 : Bool) (a8 a9 : Int) : impl_JobOk.f (k + 2) a0 a1 a2 a3 a4 a5 a6 a7 a8 a9 = some (jobOk a0 a1 a2 a3 a4 a5 a6 a8 a9) := by
  unfold impl_JobOk.f jobOk
  simp only [in_is, tells_is, Option.bind_some, impl_JobOk.j0, impl_JobOk.j1]
  by_cases h0 : 1 ≤ a0 ∧ a0 ≤ 3 <;> by_cases h1 : 1 ≤ a1 ∧ a1 ≤ 2 <;> by_cases h2 : 1 ≤ a2 ∧ a2 ≤ 3 <;> by_cases h3 : 1 ≤ a3 ∧ a3 ≤ 20 <;> simp only [h0, h1, h2, h3, decide_true, decide_false, if_true, Bool.not_true, Bool.not_false, Bool.false_and, Bool.and_false, Bool.true_and, and_self, Bool.false_eq_true, if_false]
  by_cases h5 : 0 ≤ a5 ∧ a5 ≤ 20 <;> by_cases h6 : 1 ≤ a6 ∧ a6 ≤ 4 <;> by_cases h8 : -9 ≤ a8 ∧ a8 ≤ 9 <;> simp only [h5, h6, h8, decide_true, decide_false, if_true, if_false, Bool.false_eq_true, Bool.and_false, Bool.false_and, Bool.and_true, Bool.true_and] <;>
  (by_cases h4 : a2 = 2
   · simp only [h4, if_true]
     by_cases h7 : 1 ≤ a4 ∧ a4 ≤ a3
     · simp only [h7, decide_true, if_true, and_self, Bool.true_and]
       by_cases h9 : a3 ≤ wrap64 (4 * a4) <;> simp [h9]
     · simp [h7]
   · by_cases h7 : a4 = 0 <;> simp [h4, h7])

theorem jobOk_says {a0 a1 a2 a3 a4 a5 a6 a8 a9 : Int} (h : jobOk a0 a1 a2 a3 a4 a5 a6 a8 a9 = true) : (1 ≤ a1 ∧ a1 ≤ 2) ∧ (1 ≤ a2 ∧ a2 ≤ 3) ∧ (1 ≤ a3 ∧ a3 ≤ 20) ∧ (a2 = 2 → 1 ≤ a4 ∧ a4 ≤ a3 ∧ a3 ≤ wrap64 (4 * a4)) := by
  unfold jobOk at h
  simp only [Bool.and_eq_true, decide_eq_true_eq] at h
  obtain ⟨⟨⟨⟨⟨⟨⟨⟨_, h1⟩, h2⟩, h3⟩, h4⟩, _⟩, _⟩, _⟩, _⟩ := h
  refine ⟨h1, h2, h3, fun e => ?_⟩
  rw [if_pos e] at h4
  simp only [Bool.and_eq_true, decide_eq_true_eq] at h4
  exact ⟨h4.1.1, h4.1.2, h4.2⟩
theorem frOk_is : laws_frOk.f = some true := by decide +kernel
/-- What JobTask tells. -/
def task (a0 a1 a2 a3 a4 a5 a6 a8 a9 c : Int) : Int := if jobOk a0 a1 a2 a3 a4 a5 a6 a8 a9 = true ∧ 0 ≤ c ∧ c ≤ 3 then Int.tmod c a1 else -1
theorem implTask (a0 a1 a2 a3 a4 a5 a6 : Int) (a7 : Bool) (a8 a9 c : Int) : Ev (fun k => impl_JobTask.f k a0 a1 a2 a3 a4 a5 a6 a7 a8 a9 c) (task a0 a1 a2 a3 a4 a5 a6 a8 a9 c) := by
  refine Ev_two (fun k => ?_)
  unfold impl_JobTask.f task
  rw [implJobOk_is, in_is]
  simp only [Option.bind_some]
  cases h : jobOk a0 a1 a2 a3 a4 a5 a6 a8 a9 with
  | false => simp
  | true =>
    have h1 := (jobOk_says h).1
    by_cases hc : 0 ≤ c ∧ c ≤ 3
    · simp only [decide_eq_true hc, if_true]
      rw [if_neg (by omega), if_pos ⟨trivial, hc⟩]
    · simp only [decide_eq_false hc, if_true, Bool.false_eq_true, if_false]
      rw [if_neg (fun e => hc e.2)]
theorem specTask (a0 a1 a2 a3 a4 a5 a6 : Int) (a7 : Bool) (a8 a9 c : Int) : Ev (fun k => spec_JobTask.f k a0 a1 a2 a3 a4 a5 a6 a7 a8 a9 c) (task a0 a1 a2 a3 a4 a5 a6 a8 a9 c) := by
  refine Ev_two (fun k => ?_)
  unfold spec_JobTask.f task
  rw [specJobOk_is, l1In_is]
  simp only [Option.bind_some]
  cases h : jobOk a0 a1 a2 a3 a4 a5 a6 a8 a9 with
  | false => simp
  | true =>
    have h1 := (jobOk_says h).1
    by_cases hc : 0 ≤ c ∧ c ≤ 3
    · simp only [decide_eq_true hc, if_true]
      rw [if_neg (by omega), if_pos ⟨trivial, hc⟩]
    · simp only [decide_eq_false hc, if_true, Bool.false_eq_true, if_false]
      rw [if_neg (fun e => hc e.2)]
theorem FnJobTask : laws_FnJobTask.Pure := by
  intro l _ _ hx
  apply Ev.rounds
  unfold laws_FnJobTask.f
  by_cases hl : (l.length : Int) > 1048576
  · simp only [if_pos hl]
    exact Ev.now _
  · simp only [if_neg hl]
    obtain ⟨b, ho, hb⟩ := open_ev (l := l) (by omega) hx
    obtain ⟨⟨a0, a1, a2, a3, a4, a5, a6, a7, a8, a9, q⟩, e1, c1, c2⟩ := anyjob_ev hb (n := 8) (by omega) (p := 0) (by omega)
    simp only at c1 c2
    obtain ⟨v, e2, d1, d2⟩ := pick_ev hb (p := q) (by omega) (n := 6) (by omega)
    have hw : wrap64 (v - 1) = v - 1 := wrap_id (by omega) (by omega)
    have hd : Ev (fun k => spec_DrawJobTask.f k l) (a0, a1, a2, a3, a4, a5, a6, a7, a8, a9, v - 1) := by
      unfold spec_DrawJobTask.f
      rw [ho]
      simp only [Option.bind_some]
      refine Ev.bind e1 (Ev.bind e2 ?_)
      simp only [hw]
      exact Ev.now _
    refine Ev.bind hd ?_
    clear hd hw
    generalize hV : v - 1 = c
    have hc : -1 ≤ c ∧ c ≤ 4 := by omega
    refine Ev.bind (implTask a0 a1 a2 a3 a4 a5 a6 a7 a8 a9 c) (Ev.bind (specTask a0 a1 a2 a3 a4 a5 a6 a7 a8 a9 c) ?_)
    simp only [if_true]
    have hjob : Ev (fun k => spec_JobOk.f k a0 a1 a2 a3 a4 a5 a6 a7 a8 a9) (jobOk a0 a1 a2 a3 a4 a5 a6 a8 a9) := Ev_two (fun k => specJobOk_is k a0 a1 a2 a3 a4 a5 a6 a7 a8 a9)
    refine Ev.bind hjob ?_
    have hout : task a0 a1 a2 a3 a4 a5 a6 a8 a9 c = -1 → Ev (fun k => laws_FnJobTask.j0 k c (task a0 a1 a2 a3 a4 a5 a6 a8 a9 c) true a0 a1 a2 a3 a4 a5 a6 a7 a8 a9) true := fun h => by
      rw [h]
      refine Ev_now1 (fun k => ?_)
      simp only [laws_FnJobTask.j0, if_true, frOk_is, Option.bind_some]
    cases hj : jobOk a0 a1 a2 a3 a4 a5 a6 a8 a9 with
    | false =>
      simp only [Bool.false_eq_true, if_false]
      exact hout (by unfold task; rw [hj, if_neg (by simp)])
    | true =>
      simp only [if_true]
      have h1 := (jobOk_says hj).1
      by_cases hc0 : c < 0
      · simp only [if_pos hc0]
        exact hout (by unfold task; rw [if_neg (by omega)])
      · simp only [if_neg hc0]
        by_cases hc3 : c > 3
        · simp only [decide_eq_true hc3]
          exact hout (by unfold task; rw [if_neg (by omega)])
        · simp only [decide_eq_false hc3]
          have ht : task a0 a1 a2 a3 a4 a5 a6 a8 a9 c = Int.tmod c a1 := by unfold task; rw [if_pos ⟨hj, by omega, by omega⟩]
          rw [ht]
          have hcases : (a1 = 1 ∨ a1 = 2) ∧ (c = 0 ∨ c = 1 ∨ c = 2 ∨ c = 3) := by omega
          have ht0 : 0 ≤ Int.tmod c a1 := Int.tmod_nonneg _ (by omega)
          have ht1 : Int.tmod c a1 < a1 := Int.tmod_lt_of_pos _ (by omega)
          by_cases hz : c = 0
          · subst hz
            have e : Int.tmod 0 a1 = 0 := Int.zero_tmod _
            rw [e]
            refine Ev_now1 (fun k => ?_)
            simp only [laws_FnJobTask.j0]
            rw [if_neg (by simp), if_pos (by omega), if_pos (by omega), if_pos trivial, if_pos trivial]
          · have hw : wrap64 (c - 1) = c - 1 := wrap_id (by omega) (by omega)
            have ht2 : task a0 a1 a2 a3 a4 a5 a6 a8 a9 (c - 1) = Int.tmod (c - 1) a1 := by unfold task; rw [if_pos ⟨hj, by omega, by omega⟩]
            have hi := implTask a0 a1 a2 a3 a4 a5 a6 a7 a8 a9 (c - 1)
            rw [ht2] at hi
            have key : (Int.tmod c a1 == Int.tmod (wrap64 (Int.tmod (c - 1) a1 + 1)) a1) = true := by
              rcases hcases.1 with rfl | rfl <;> rcases hcases.2 with rfl | rfl | rfl | rfl <;> first | exact absurd rfl hz | decide +kernel
            refine Ev.step (f := fun k => (impl_JobTask.f k a0 a1 a2 a3 a4 a5 a6 a7 a8 a9 (c - 1)).bind fun t => if a1 = 0 then none else some (Int.tmod c a1 == Int.tmod (wrap64 (t + 1)) a1)) (fun k => by
              simp only [laws_FnJobTask.j0]
              rw [if_neg (by simp), if_pos (by omega), if_pos (by omega), if_neg hz, if_pos (by omega), hw]) ?_
            refine Ev.bind hi ?_
            simp only [if_neg (show ¬ a1 = 0 by omega), key]
            exact Ev.now _

end Go.Proofs.Ytgmkfhgebinfgaa.Pure
