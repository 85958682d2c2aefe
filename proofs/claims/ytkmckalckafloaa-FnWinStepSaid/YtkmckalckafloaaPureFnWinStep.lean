/- The law FnWinStep over numbers and lists: the Lean function of it that was printed answers true. No condition but that each number is one of its kind. -/
import Derived.Test.YtkmckalckafloaaQFnWinStepx10
import Derived.Test.YtkmckalckafloaaVFnWinStepAid
set_option linter.unusedVariables false
set_option linter.unusedSimpArgs false
namespace Go.Proofs.Ytkmckalckafloaa.Pure
open Go.RowKit Go.Proofs.Ytkmckalckafloaa.PFnWinStep Go.Proofs.YtkmckalckafloaaW.PrintWords Go.Proofs.YtkmckalckafloaaW.PrintLast Go.Proofs.Ytkmckalckafloaa.Aid

/-- A code that may be read: bytes, not too many. -/
def Code (b : List Int) : Prop := b.length ≤ 2000 ∧ ∀ x ∈ b, 0 ≤ x ∧ x ≤ 255
theorem code_rd {b : List Int} (hb : Code b) (i : Int) : 0 ≤ rd b i ∧ rd b i ≤ 255 := by
  unfold rd
  rw [List.getD_eq_getElem?_getD]
  rcases Nat.lt_or_ge i.toNat b.length with h | h
  · rw [List.getElem?_eq_getElem h]
    exact hb.2 _ (List.getElem_mem h)
  · rw [List.getElem?_eq_none h]
    exact ⟨Int.le_refl _, by decide⟩
theorem xor_pos (x y : Int) (hx : 0 ≤ x ∧ x < 4611686018427387904) (hy : 0 ≤ y ∧ y < 4611686018427387904) : 0 ≤ Go.bits .xor .i64 x y := by
  obtain ⟨a, rfl⟩ := Int.eq_ofNat_of_zero_le hx.1
  obtain ⟨b, rfl⟩ := Int.eq_ofNat_of_zero_le hy.1
  have ha : a < 2 ^ 62 := by omega
  have hb : b < 2 ^ 62 := by omega
  have ha' : a % 2 ^ IntKind.i64.bits = a := Nat.mod_eq_of_lt (Nat.lt_of_lt_of_le ha (by decide))
  have hb' : b % 2 ^ IntKind.i64.bits = b := Nat.mod_eq_of_lt (Nat.lt_of_lt_of_le hb (by decide))
  have hxr : a ^^^ b < 2 ^ 62 := Nat.xor_lt_two_pow ha hb
  simp only [Go.bits, BitVec.ofInt_natCast, BitVec.toNat_xor, BitVec.toNat_ofNat, ha', hb']
  rw [IntKind.wrap_i64]
  have : ((a ^^^ b : Nat) : Int) < 2 ^ 62 := by exact_mod_cast hxr
  omega
theorem tmod_in (x n : Int) (hx : 0 ≤ x) (hn : 1 ≤ n) : 0 ≤ Int.tmod x n ∧ Int.tmod x n < n :=
  ⟨Int.tmod_nonneg _ hx, Int.tmod_lt_of_pos _ (by omega)⟩
theorem pick_ev {b : List Int} (hb : Code b) {p : Int} (hp : 0 ≤ p ∧ p ≤ 1000000000) {n : Int} (hn : 1 ≤ n) : ∃ v, Ev (fun k => spec_l20Rd_pick.f k b p n) (v, p + 1) ∧ 0 ≤ v ∧ v < n := by
  have hl := hb.1
  have hw : wrap64 (p + 1) = p + 1 := wrap_id (by omega) (by omega)
  have hw2 : wrap64 (p + 1 - 1) = p := by rw [wrap_id (by omega) (by omega)]; omega
  have e0 : ∀ k, spec_l20Rd_pick.f k b p n = spec_l20Rd_pick.j0 k n ((b.length : Int) == 0) b (p + 1) := fun k => by
    unfold spec_l20Rd_pick.f
    rw [if_neg (by omega), hw]
  by_cases hz : b.length = 0
  · refine ⟨0, Ev.congr e0 (Ev_now1 (fun k => ?_)), by omega, by omega⟩
    simp only [spec_l20Rd_pick.j0]
    rw [if_pos (by simp [hz])]
  · have hz' : ((b.length : Int) == 0) = false := by simpa using hz
    have hlp : (1 : Int) ≤ (b.length : Int) := by omega
    rw [hz'] at e0
    by_cases h1 : p < (b.length : Int)
    · have hr := code_rd hb p
      have hwr : wrap64 (rd b p) = rd b p := wrap_id (by omega) (by omega)
      obtain ⟨t0, t1⟩ := tmod_in (rd b p) n hr.1 hn
      refine ⟨Int.tmod (rd b p) n, Ev.congr e0 (Ev_now1 (fun k => ?_)), t0, t1⟩
      simp only [spec_l20Rd_pick.j0]
      rw [if_neg (by simp), hw2, if_pos h1, if_pos hp.1, if_neg (by omega), hwr]
    · obtain ⟨t0, t1⟩ := tmod_in p (b.length : Int) hp.1 hlp
      have w7 : wrap64 (p * 7) = p * 7 := wrap_id (by omega) (by omega)
      have w73 : wrap64 (p * 7 + 3) = p * 7 + 3 := wrap_id (by omega) (by omega)
      obtain ⟨s0, s1⟩ := tmod_in (p * 7 + 3) (b.length : Int) (by omega) hlp
      have ra := code_rd hb (Int.tmod p (b.length : Int))
      have rb := code_rd hb (Int.tmod (p * 7 + 3) (b.length : Int))
      have hd0 : 0 ≤ Int.tdiv p (b.length : Int) := Int.tdiv_nonneg hp.1 (by omega)
      have hd1 : Int.tdiv p (b.length : Int) ≤ p := by
        rw [Int.tdiv_eq_ediv_of_nonneg hp.1]
        exact Int.ediv_le_self _ hp.1
      generalize hA : rd b (Int.tmod p (b.length : Int)) = A at ra
      generalize hB : rd b (Int.tmod (p * 7 + 3) (b.length : Int)) = B at rb
      generalize hD : Int.tdiv p (b.length : Int) = D at hd0 hd1
      have v1 : wrap64 A = A := wrap_id (by omega) (by omega)
      have v2 : wrap64 (A * 131) = A * 131 := wrap_id (by omega) (by omega)
      have v3 : wrap64 B = B := wrap_id (by omega) (by omega)
      have v4 : wrap64 (B * 1117) = B * 1117 := wrap_id (by omega) (by omega)
      have v5 : wrap64 (A * 131 + B * 1117) = A * 131 + B * 1117 := wrap_id (by omega) (by omega)
      have v6 : wrap64 (p * 29) = p * 29 := wrap_id (by omega) (by omega)
      have v7 : wrap64 (A * 131 + B * 1117 + p * 29) = A * 131 + B * 1117 + p * 29 := wrap_id (by omega) (by omega)
      have v8 : wrap64 D = D := wrap_id (by omega) (by omega)
      have v9 : wrap64 (D * 53) = D * 53 := wrap_id (by omega) (by omega)
      have v10 : wrap64 (A * 131 + B * 1117 + p * 29 + D * 53) = A * 131 + B * 1117 + p * 29 + D * 53 := wrap_id (by omega) (by omega)
      have hx0 : 0 ≤ A * 131 + B * 1117 + p * 29 + D * 53 ∧ A * 131 + B * 1117 + p * 29 + D * 53 < 4611686018427387904 := by omega
      generalize hX : A * 131 + B * 1117 + p * 29 + D * 53 = X at v10 hx0
      have hq0 : 0 ≤ Int.tdiv X 64 := Int.tdiv_nonneg hx0.1 (by omega)
      have hq1 : Int.tdiv X 64 ≤ X := by
        rw [Int.tdiv_eq_ediv_of_nonneg hx0.1]
        omega
      have v11 : wrap64 (Int.tdiv X 64) = Int.tdiv X 64 := wrap_id (by omega) (by omega)
      have hxor := xor_pos X (Int.tdiv X 64) hx0 ⟨hq0, by omega⟩
      obtain ⟨u0, u1⟩ := tmod_in _ n hxor hn
      refine ⟨Int.tmod (Go.bits .xor .i64 X (Int.tdiv X 64)) n, Ev.congr e0 (Ev_now1 (fun k => ?_)), u0, u1⟩
      simp only [spec_l20Rd_pick.j0]
      rw [if_neg (by simp), hw2, if_neg h1, if_neg (by omega), if_pos t0, if_pos t1]
      simp only [w7, w73]
      rw [if_pos s0, if_pos s1, if_neg (by omega)]
      simp only [hA, hB, hD, v1, v2, v3, v4, v5, v6, v7, v8, v9, v10, hX, v11]
theorem open_ev {l : List Int} (hl : l.length ≤ 1048576) (hb : ∀ x ∈ l, (Lit.int .u8 x).wf = true) : ∃ b, spec_l20Open.f l = some (b, 0) ∧ Code b := by
  have hx : ∀ x ∈ l, 0 ≤ x ∧ x ≤ 255 := fun x h => by
    have := hb x h
    simp only [Lit.wf, Bool.and_eq_true, decide_eq_true_eq] at this
    have a : IntKind.u8.min = 0 := by decide
    have b : IntKind.u8.max = 255 := by decide
    omega
  unfold spec_l20Open.f
  by_cases h : (l.length : Int) > 2000
  · rw [if_pos h, if_pos (by omega)]
    exact ⟨_, rfl, by simp; omega, fun x hm => hx x (List.mem_of_mem_take hm)⟩
  · rw [if_neg h]
    exact ⟨_, rfl, by omega, hx⟩
theorem rdlit (xs : List Int) (i : Int) (h0 : 0 ≤ i) (h1 : i < (xs.length : Int)) : rd xs i ∈ xs := by
  unfold rd
  have h : i.toNat < xs.length := by omega
  rw [List.getD_eq_getElem?_getD, List.getElem?_eq_getElem h]
  exact List.getElem_mem h
theorem ite_ex {α : Type} {R : α → Prop} {c : Prop} [Decidable c] {f g : Nat → Option α} (h1 : c → ∃ r, Ev f r ∧ R r) (h2 : ¬ c → ∃ r, Ev g r ∧ R r) : ∃ r, Ev (fun k => if c then f k else g k) r ∧ R r := by
  by_cases h : c
  · simp only [if_pos h]
    exact h1 h
  · simp only [if_neg h]
    exact h2 h
theorem bind_ex {α β : Type} {R : β → Prop} {f : Nat → Option α} {a : α} (h : Ev f a) {g : Nat → α → Option β} (hg : ∃ r, Ev (fun k => g k a) r ∧ R r) : ∃ r, Ev (fun k => (f k).bind (g k)) r ∧ R r := by
  obtain ⟨r, hr, h2⟩ := hg
  exact ⟨r, Ev.bind h hr, h2⟩
theorem step_ex {α : Type} {R : α → Prop} {g f : Nat → Option α} (h : ∀ k, g (k + 1) = f k) (hf : ∃ r, Ev f r ∧ R r) : ∃ r, Ev g r ∧ R r := by
  obtain ⟨r, hr, h2⟩ := hf
  exact ⟨r, Ev.step h hr, h2⟩
theorem now_ex {α : Type} {R : α → Prop} (r : α) (h : R r) : ∃ r, Ev (fun _ => some r) r ∧ R r := ⟨r, Ev.now r, h⟩
theorem job2_ev (b : List Int) (p : Int) (y0 y1 y2 y3 y4 y5 y6 : Int) (y7 : Bool) (y8 y9 : Int) : ∃ r : Int × Int × Int × Int × Int × Int × Int × Bool × Int × Int × Int, Ev (fun k => spec_l20Job.j2 k b p y0 y1 y2 y3 y4 y5 y6 y7 y8 y9) r ∧ r.2.2.2.2.2.2.2.2.2.2 = p := by
  refine step_ex (f := fun k => _) (fun k => by simp only [spec_l20Job.j2]; rfl) ?_
  exact ⟨_, Ev.now _, rfl⟩
theorem job1_ev (b : List Int) (p : Int) (y0 y1 y2 y3 y4 y5 y6 : Int) (y7 : Bool) (y8 y9 : Int) : ∃ r : Int × Int × Int × Int × Int × Int × Int × Bool × Int × Int × Int, Ev (fun k => spec_l20Job.j1 k b p y0 y1 y2 y3 y4 y5 y6 y7 y8 y9) r ∧ r.2.2.2.2.2.2.2.2.2.2 = p := by
  refine step_ex (f := fun k => _) (fun k => by simp only [spec_l20Job.j1]; rfl) ?_
  exact job2_ev b p y0 y1 y2 y3 y4 y5 y6 y7 y8 y9
theorem job0_ev (b : List Int) (p : Int) (c : Bool) (y0 y1 y2 y3 y4 y5 y6 : Int) (y7 : Bool) (y8 y9 : Int) : ∃ r : Int × Int × Int × Int × Int × Int × Int × Bool × Int × Int × Int, Ev (fun k => spec_l20Job.j0 k c b p y0 y1 y2 y3 y4 y5 y6 y7 y8 y9) r ∧ r.2.2.2.2.2.2.2.2.2.2 = p := by
  refine step_ex (f := fun k => _) (fun k => by simp only [spec_l20Job.j0]; rfl) ?_
  exact ite_ex (fun _ => job1_ev b p _ _ _ _ _ _ _ _ _ _) (fun _ => job1_ev b p _ _ _ _ _ _ _ _ _ _)
theorem job_ev {b : List Int} (hb : Code b) {p : Int} (hp : 0 ≤ p ∧ p ≤ 999900000) : ∃ r : Int × Int × Int × Int × Int × Int × Int × Bool × Int × Int × Int, Ev (fun k => spec_l20Job.f k b p) r ∧ (p ≤ r.2.2.2.2.2.2.2.2.2.2 ∧ r.2.2.2.2.2.2.2.2.2.2 ≤ p + 20) := by
  obtain ⟨v1, e1, a1, b1⟩ := pick_ev hb (p := p) (by omega) (n := 3) (by omega)
  obtain ⟨v2, e2, a2, b2⟩ := pick_ev hb (p := p + 1) (by omega) (n := 2) (by omega)
  obtain ⟨v3, e3, a3, b3⟩ := pick_ev hb (p := p + 1 + 1) (by omega) (n := 3) (by omega)
  obtain ⟨v4, e4, a4, b4⟩ := pick_ev hb (p := p + 1 + 1 + 1) (by omega) (n := 6) (by omega)
  obtain ⟨v5, e5, a5, b5⟩ := pick_ev hb (p := p + 1 + 1 + 1 + 1) (by omega) (n := 5) (by omega)
  obtain ⟨v6, e6, a6, b6⟩ := pick_ev hb (p := p + 1 + 1 + 1 + 1 + 1) (by omega) (n := 4) (by omega)
  obtain ⟨v7, e7, a7, b7⟩ := pick_ev hb (p := p + 1 + 1 + 1 + 1 + 1 + 1) (by omega) (n := 2) (by omega)
  obtain ⟨v8, e8, a8, b8⟩ := pick_ev hb (p := p + 1 + 1 + 1 + 1 + 1 + 1 + 1) (by omega) (n := 5) (by omega)
  obtain ⟨v9, e9, a9, b9⟩ := pick_ev hb (p := p + 1 + 1 + 1 + 1 + 1 + 1 + 1 + 1) (by omega) (n := 4) (by omega)
  unfold spec_l20Job.f
  refine bind_ex e1 (bind_ex e2 (bind_ex e3 ?_))
  simp only [Option.bind_some]
  refine bind_ex e4 ?_
  refine ite_ex (fun _ => ?_) (fun h => absurd a4 h)
  refine ite_ex (fun _ => ?_) (fun h => absurd (by simpa using b4) h)
  refine bind_ex e5 ?_
  refine ite_ex (fun _ => ?_) (fun h => absurd a5 h)
  refine ite_ex (fun _ => ?_) (fun h => absurd (by simpa using b5) h)
  refine bind_ex e6 (bind_ex e7 (bind_ex e8 ?_))
  refine ite_ex (fun _ => ?_) (fun h => absurd a8 h)
  refine ite_ex (fun _ => ?_) (fun h => absurd (by simpa using b8) h)
  refine bind_ex e9 ?_
  refine ite_ex (fun _ => ?_) (fun _ => ?_)
  · obtain ⟨v10, e10, a10, b10⟩ := pick_ev hb (p := p + 1 + 1 + 1 + 1 + 1 + 1 + 1 + 1 + 1) (by omega) (n := 4) (by omega)
    obtain ⟨v11, e11, a11, b11⟩ := pick_ev hb (p := p + 1 + 1 + 1 + 1 + 1 + 1 + 1 + 1 + 1 + 1) (by omega) (n := 4) (by omega)
    have hw : wrap64 (1 + v11) = 1 + v11 := wrap_id (by omega) (by omega)
    refine bind_ex e10 (bind_ex e11 ?_)
    refine ite_ex (fun h => absurd h (by simp only [hw]; omega)) (fun _ => ?_)
    refine ite_ex (fun _ => ?_) (fun _ => ite_ex (fun _ => ?_) (fun _ => ?_))
    all_goals
      obtain ⟨r, hr, h1⟩ := job0_ev b (p + 1 + 1 + 1 + 1 + 1 + 1 + 1 + 1 + 1 + 1 + 1) _ _ _ _ _ _ _ _ _ _ _
      exact ⟨r, hr, by omega, by omega⟩
  · obtain ⟨r, hr, h1⟩ := job2_ev b (p + 1 + 1 + 1 + 1 + 1 + 1 + 1 + 1 + 1) _ _ _ _ _ _ _ _ _ _
    exact ⟨r, hr, by omega, by omega⟩
theorem any0_ev (b : List Int) (p : Int) (y0 y1 y2 y3 y4 y5 y6 : Int) (y7 : Bool) (y8 y9 : Int) : ∃ r : Int × Int × Int × Int × Int × Int × Int × Bool × Int × Int × Int, Ev (fun k => spec_l20AnyJob.j0 k b p y0 y1 y2 y3 y4 y5 y6 y7 y8 y9) r ∧ r.2.2.2.2.2.2.2.2.2.2 = p := by
  refine step_ex (f := fun k => _) (fun k => by simp only [spec_l20AnyJob.j0]; rfl) ?_
  exact ⟨_, Ev.now _, rfl⟩
theorem anyjob_ev {b : List Int} (hb : Code b) {n : Int} (hn : 1 ≤ n) {p : Int} (hp : 0 ≤ p ∧ p ≤ 999800000) : ∃ r : Int × Int × Int × Int × Int × Int × Int × Bool × Int × Int × Int, Ev (fun k => spec_l20AnyJob.f k b p n) r ∧ (p ≤ r.2.2.2.2.2.2.2.2.2.2 ∧ r.2.2.2.2.2.2.2.2.2.2 ≤ p + 30) := by
  obtain ⟨⟨z0, z1, z2, z3, z4, z5, z6, z7, z8, z9, q⟩, e1, a1, b1⟩ := job_ev hb (p := p) (by omega)
  simp only at a1 b1
  obtain ⟨v2, e2, a2, b2⟩ := pick_ev hb (p := q) (by omega) (n := n) hn
  obtain ⟨v3, e3, a3, b3⟩ := pick_ev hb (p := q + 1) (by omega) (n := 8) (by omega)
  obtain ⟨v4, e4, a4, b4⟩ := pick_ev hb (p := q + 1 + 1) (by omega) (n := 9) (by omega)
  unfold spec_l20AnyJob.f
  refine bind_ex e1 (bind_ex e2 ?_)
  refine ite_ex (fun _ => ?_) (fun _ => ?_)
  · exact ⟨_, Ev.now _, by first | omega | (simp only; omega)⟩
  simp only [Option.bind_some]
  refine bind_ex e3 ?_
  refine ite_ex (fun _ => ?_) (fun h => absurd a3 h)
  refine ite_ex (fun _ => ?_) (fun h => absurd (by simpa using b3) h)
  refine bind_ex e4 ?_
  refine ite_ex (fun _ => ?_) (fun _ => ite_ex (fun _ => ?_) (fun _ => ite_ex (fun _ => ?_) (fun _ => ite_ex (fun _ => ?_) (fun _ => ite_ex (fun _ => ?_) (fun _ => ite_ex (fun _ => ?_) (fun _ => ite_ex (fun _ => ?_) (fun _ => ite_ex (fun _ => ?_) (fun _ => ?_))))))))
  · obtain ⟨r, hr, h1⟩ := any0_ev b (q + 1 + 1 + 1) _ _ _ _ _ _ _ _ _ _
    exact ⟨r, hr, by omega, by omega⟩
  · obtain ⟨r, hr, h1⟩ := any0_ev b (q + 1 + 1 + 1) _ _ _ _ _ _ _ _ _ _
    exact ⟨r, hr, by omega, by omega⟩
  · obtain ⟨r, hr, h1⟩ := any0_ev b (q + 1 + 1 + 1) _ _ _ _ _ _ _ _ _ _
    exact ⟨r, hr, by omega, by omega⟩
  · obtain ⟨r, hr, h1⟩ := any0_ev b (q + 1 + 1 + 1) _ _ _ _ _ _ _ _ _ _
    exact ⟨r, hr, by omega, by omega⟩
  · obtain ⟨r, hr, h1⟩ := any0_ev b (q + 1 + 1 + 1) _ _ _ _ _ _ _ _ _ _
    exact ⟨r, hr, by omega, by omega⟩
  · obtain ⟨r, hr, h1⟩ := any0_ev b (q + 1 + 1 + 1) _ _ _ _ _ _ _ _ _ _
    exact ⟨r, hr, by omega, by omega⟩
  · obtain ⟨r, hr, h1⟩ := any0_ev b (q + 1 + 1 + 1) _ _ _ _ _ _ _ _ _ _
    exact ⟨r, hr, by omega, by omega⟩
  · obtain ⟨r, hr, h1⟩ := any0_ev b (q + 1 + 1 + 1) _ _ _ _ _ _ _ _ _ _
    exact ⟨r, hr, by omega, by omega⟩
  · obtain ⟨r, hr, h1⟩ := any0_ev b (q + 1 + 1 + 1) _ _ _ _ _ _ _ _ _ _
    exact ⟨r, hr, by omega, by omega⟩
theorem drawwinof_ev {b l : List Int} (hb : Code b) (ho : spec_l20Open.f l = some (b, 0)) : ∃ a0 a1 a2 a3 a4 a5 a6 a7 a8 a9 t, Ev (fun k => spec_DrawWinOf.f k l) (a0, a1, a2, a3, a4, a5, a6, a7, a8, a9, t) := by
  obtain ⟨⟨a0, a1, a2, a3, a4, a5, a6, a7, a8, a9, q⟩, e1, c1, c2⟩ := anyjob_ev hb (n := 12) (by omega) (p := 0) (by omega)
  simp only at c1 c2
  obtain ⟨v, e2, d1, d2⟩ := pick_ev hb (p := q) (by omega) (n := 60) (by omega)
  obtain ⟨v2, e3, d3, d4⟩ := pick_ev hb (p := q + 1) (by omega) (n := 8) (by omega)
  refine ⟨a0, a1, a2, a3, a4, a5, a6, a7, a8, a9, rd [0, 1, 19, 20, 60, 61, (-1), v] v2, ?_⟩
  unfold spec_DrawWinOf.f
  rw [ho]
  simp only [Option.bind_some]
  refine Ev.bind e1 (Ev.bind e2 (Ev.bind e3 ?_))
  simp only [if_pos d3, if_pos (show v2 < (([0, 1, 19, 20, 60, 61, (-1), v] : List Int).length : Int) by simpa using d4)]
  exact Ev.now _
theorem Ev_two {α : Type} {g : Nat → Option α} {r : α} (h : ∀ k, g (k + 2) = some r) : Ev g r :=
  ⟨2, fun k hk => by
    obtain ⟨m, rfl⟩ : ∃ m, k = m + 2 := ⟨k - 2, by omega⟩
    exact h m⟩
/-- What a job must be. -/
def jobOk (a0 a1 a2 a3 a4 a5 a6 : Int) (a8 a9 : Int) : Bool :=
  decide (1 ≤ a0 ∧ a0 ≤ 3) && decide (1 ≤ a1 ∧ a1 ≤ 2) && decide (1 ≤ a2 ∧ a2 ≤ 3) && decide (1 ≤ a3 ∧ a3 ≤ 20) &&
  (if a2 = 2 then decide (1 ≤ a4 ∧ a4 ≤ a3) && decide (a3 ≤ wrap64 (4 * a4)) else decide (a4 = 0)) &&
  decide (0 ≤ a5 ∧ a5 ≤ 20) && decide (1 ≤ a6 ∧ a6 ≤ 4) && decide (-9 ≤ a8 ∧ a8 ≤ 9) && decide (1 ≤ a9 ∧ a9 ≤ 4)
theorem l1In_is (a b c : Int) : spec_l1In.f a b c = some (decide (b ≤ a ∧ a ≤ c)) := by
  unfold spec_l1In.f
  by_cases h : a ≥ b
  · have h' : b ≤ a := h
    simp [h, h']
  · have h' : ¬ b ≤ a := h
    simp [h']
theorem in_is (a b c : Int) : impl_in.f a b c = some (decide (b ≤ a ∧ a ≤ c)) := l1In_is a b c
theorem tells_is (a : Int) : impl_tells.f a = some (decide (1 ≤ a ∧ a ≤ 4)) := by
  unfold impl_tells.f
  rw [in_is]
  rfl
theorem specJobOk_is (k : Nat) (a0 a1 a2 a3 a4 a5 a6 : Int) (a7 : Bool) (a8 a9 : Int) : spec_JobOk.f (k + 2) a0 a1 a2 a3 a4 a5 a6 a7 a8 a9 = some (jobOk a0 a1 a2 a3 a4 a5 a6 a8 a9) := by
  unfold spec_JobOk.f jobOk
  simp only [l1In_is, Option.bind_some, spec_JobOk.j0, spec_JobOk.j1]
  by_cases h0 : 1 ≤ a0 ∧ a0 ≤ 3 <;> by_cases h1 : 1 ≤ a1 ∧ a1 ≤ 2 <;> by_cases h2 : 1 ≤ a2 ∧ a2 ≤ 3 <;> by_cases h3 : 1 ≤ a3 ∧ a3 ≤ 20 <;> simp only [h0, h1, h2, h3, decide_true, decide_false, if_true, Bool.not_true, Bool.not_false, Bool.false_and, Bool.and_false, Bool.true_and, and_self, Bool.false_eq_true, if_false]
  by_cases h5 : 0 ≤ a5 ∧ a5 ≤ 20 <;> by_cases h6 : 1 ≤ a6 ∧ a6 ≤ 4 <;> by_cases h8 : -9 ≤ a8 ∧ a8 ≤ 9 <;> simp only [h5, h6, h8, decide_true, decide_false, if_true, if_false, Bool.false_eq_true, Bool.and_false, Bool.false_and, Bool.and_true, Bool.true_and] <;>
  (by_cases h4 : a2 = 2
   · simp only [h4, if_true]
     by_cases h7 : 1 ≤ a4 ∧ a4 ≤ a3
     · simp only [h7, decide_true, if_true, and_self, Bool.true_and]
       by_cases h9 : a3 > wrap64 (4 * a4)
       · have h9' : ¬ a3 ≤ wrap64 (4 * a4) := by omega
         simp [h9, h9']
       · have h9' : a3 ≤ wrap64 (4 * a4) := by omega
         simp [h9, h9']
     · simp [h7]
   · by_cases h7 : a4 = 0 <;> simp [h4, h7])
theorem implJobOk_is (k : Nat) (a0 a1 a2 a3 a4 a5 a6 : Int) (a7 : Bool) (a8 a9 : Int) : impl_JobOk.f (k + 2) a0 a1 a2 a3 a4 a5 a6 a7 a8 a9 = some (jobOk a0 a1 a2 a3 a4 a5 a6 a8 a9) := by
  unfold impl_JobOk.f jobOk
  simp only [in_is, tells_is, Option.bind_some, impl_JobOk.j0, impl_JobOk.j1]
  by_cases h0 : 1 ≤ a0 ∧ a0 ≤ 3 <;> by_cases h1 : 1 ≤ a1 ∧ a1 ≤ 2 <;> by_cases h2 : 1 ≤ a2 ∧ a2 ≤ 3 <;> by_cases h3 : 1 ≤ a3 ∧ a3 ≤ 20 <;> simp only [h0, h1, h2, h3, decide_true, decide_false, if_true, Bool.not_true, Bool.not_false, Bool.false_and, Bool.and_false, Bool.true_and, and_self, Bool.false_eq_true, if_false]
  by_cases h5 : 0 ≤ a5 ∧ a5 ≤ 20 <;> by_cases h6 : 1 ≤ a6 ∧ a6 ≤ 4 <;> by_cases h8 : -9 ≤ a8 ∧ a8 ≤ 9 <;> simp only [h5, h6, h8, decide_true, decide_false, if_true, if_false, Bool.false_eq_true, Bool.and_false, Bool.false_and, Bool.and_true, Bool.true_and] <;>
  (by_cases h4 : a2 = 2
   · simp only [h4, if_true]
     by_cases h7 : 1 ≤ a4 ∧ a4 ≤ a3
     · simp only [h7, decide_true, if_true, and_self, Bool.true_and]
       by_cases h9 : a3 ≤ wrap64 (4 * a4) <;> simp [h9]
     · simp [h7]
   · by_cases h7 : a4 = 0 <;> simp [h4, h7])

theorem jobOk_says {a0 a1 a2 a3 a4 a5 a6 a8 a9 : Int} (h : jobOk a0 a1 a2 a3 a4 a5 a6 a8 a9 = true) : (1 ≤ a1 ∧ a1 ≤ 2) ∧ (1 ≤ a2 ∧ a2 ≤ 3) ∧ (1 ≤ a3 ∧ a3 ≤ 20) ∧ (a2 = 2 → 1 ≤ a4 ∧ a4 ≤ a3 ∧ a3 ≤ wrap64 (4 * a4)) := by
  unfold jobOk at h
  simp only [Bool.and_eq_true, decide_eq_true_eq] at h
  obtain ⟨⟨⟨⟨⟨⟨⟨⟨_, h1⟩, h2⟩, h3⟩, h4⟩, _⟩, _⟩, _⟩, _⟩ := h
  refine ⟨h1, h2, h3, fun e => ?_⟩
  rw [if_pos e] at h4
  simp only [Bool.and_eq_true, decide_eq_true_eq] at h4
  exact ⟨h4.1.1, h4.1.2, h4.2⟩
/-- The windows of a time, from f on, a step apart. -/
def wins (t size step : Int) : Nat → Int → List S34 → List S34
  | 0, _, out => out
  | n + 1, f, out => if f ≤ t then wins t size step n (f + step) (if t < f + size then out ++ [⟨f, f + size⟩] else out) else out
theorem wins_len (t size step : Int) (n : Nat) (f : Int) (out : List S34) : (wins t size step n f out).length ≤ out.length + n := by
  induction n generalizing f out with
  | zero => simp [wins]
  | succ n ih =>
    unfold wins
    split
    · have := ih (f + step) (if t < f + size then out ++ [⟨f, f + size⟩] else out)
      split at this
      · rw [if_pos ‹_›]
        simp at this ⊢
        omega
      · rw [if_neg ‹_›]
        omega
    · omega
theorem impl_wins (t size step : Int) (ht : t ≤ 60) (hs : 1 ≤ size ∧ size ≤ 20) (hp : 1 ≤ step ∧ step ≤ 20) (a0 a1 a2 a4 a5 a6 : Int) (a7 : Bool) (a8 a9 : Int) (n : Nat) : ∀ (f : Int) (out : List S34), 0 ≤ f → f ≤ 80 → t - f + 1 ≤ n → out.length + n ≤ 1000 → Ev (fun k => impl_WinOf.l0 k t f step out a0 a1 a2 size a4 a5 a6 a7 a8 a9) (wins t size step n f out) := by
  induction n with
  | zero =>
    intro f out h0 h1 h2 h3
    exact Ev_now1 (fun k => by simp only [impl_WinOf.l0]; rw [if_neg (by omega), wins])
  | succ n ih =>
    intro f out h0 h1 h2 h3
    unfold wins
    by_cases h : f ≤ t
    · rw [if_pos h]
      have hw1 : wrap64 (f + size) = f + size := wrap_id (by omega) (by omega)
      have hw2 : wrap64 (f + step) = f + step := wrap_id (by omega) (by omega)
      by_cases h4 : t < f + size
      · rw [if_pos h4]
        refine Ev_eq (ih (f + step) (out ++ [⟨f, f + size⟩]) (by omega) (by omega) (by omega) (by simp; omega)) (fun k => ?_)
        simp only [impl_WinOf.l0]
        rw [if_pos h, hw1, if_pos h4, if_pos (by omega), hw2]
      · rw [if_neg h4]
        refine Ev_eq (ih (f + step) out (by omega) (by omega) (by omega) (by omega)) (fun k => ?_)
        simp only [impl_WinOf.l0]
        rw [if_pos h, hw1, if_neg h4, hw2]
    · rw [if_neg h]
      exact Ev_now1 (fun k => by simp only [impl_WinOf.l0]; rw [if_neg h])
/-- The windows of a time, of a job that is ok. -/
def winsOf (kind size step t : Int) : List S34 :=
  if kind = 1 then [⟨t - t % size, t - t % size + size⟩] else if kind = 3 then [⟨t, t + size⟩] else wins t size step 61 0 []
theorem winsOf_len (kind size step t : Int) : (winsOf kind size step t).length ≤ 61 := by
  unfold winsOf
  split
  · simp
  · split
    · simp
    · have := wins_len t size step 61 0 []
      simpa using this
theorem tmod_is {t s : Int} (ht : 0 ≤ t) (hs : 1 ≤ s) : Int.tmod t s = t % s ∧ 0 ≤ t % s ∧ t % s < s ∧ t % s ≤ t :=
  ⟨Int.tmod_eq_emod_of_nonneg ht, Int.emod_nonneg _ (by omega), Int.emod_lt_of_pos _ (by omega), by
    have h1 := Int.mul_ediv_add_emod t s
    have h2 : 0 ≤ s * (t / s) := Int.mul_nonneg (by omega) (Int.ediv_nonneg ht (by omega))
    omega⟩
theorem impl_winsOf (a0 a1 a2 a3 a4 a5 a6 : Int) (a7 : Bool) (a8 a9 t : Int) (hj : jobOk a0 a1 a2 a3 a4 a5 a6 a8 a9 = true) (ht : 0 ≤ t ∧ t ≤ 60) : Ev (fun k => impl_WinOf.f k a0 a1 a2 a3 a4 a5 a6 a7 a8 a9 t) (winsOf a2 a3 a4 t) := by
  obtain ⟨h1, h2, h3, h4⟩ := jobOk_says hj
  have hjo : Ev (fun k => impl_JobOk.f k a0 a1 a2 a3 a4 a5 a6 a7 a8 a9) true := Ev_two (fun k => by rw [implJobOk_is, hj])
  unfold impl_WinOf.f
  refine Ev.bind hjo ?_
  simp only [if_true, in_is, decide_eq_true ht, Option.bind_some, Bool.not_true]
  unfold winsOf
  by_cases e1 : a2 = 1
  · obtain ⟨q1, q2, q3, q4⟩ := tmod_is (s := a3) ht.1 h3.1
    rw [if_pos e1]
    refine Ev_eq (f := fun k => impl_WinOf.j1 k t (t - t % a3) a3 a0 a1 a2 a3 a4 a5 a6 a7 a8 a9) ?_ (fun k => by
      simp only [impl_WinOf.j0]
      rw [if_neg (by simp), if_pos e1, if_neg (by omega), q1, wrap_id (by omega) (by omega)])
    refine Ev_eq (f := fun k => impl_WinOf.l0 k t (t - t % a3) a3 [] a0 a1 a2 a3 a4 a5 a6 a7 a8 a9) ?_ (fun k => by simp only [impl_WinOf.j1])
    have h := impl_wins t a3 a3 ht.2 h3 h3 a0 a1 a2 a4 a5 a6 a7 a8 a9 61 (t - t % a3) [] (by omega) (by omega) (by omega) (by simp)
    have e : wins t a3 a3 61 (t - t % a3) [] = [⟨t - t % a3, t - t % a3 + a3⟩] := by
      unfold wins
      rw [if_pos (by omega), if_pos (by omega)]
      unfold wins
      rw [if_neg (by omega)]
      rfl
    rw [e] at h
    exact h
  · rw [if_neg e1]
    by_cases e3 : a2 = 3
    · rw [if_pos e3]
      refine Ev_eq (f := fun k => impl_WinOf.j1 k t t 1 a0 a1 a2 a3 a4 a5 a6 a7 a8 a9) ?_ (fun k => by
        simp only [impl_WinOf.j0]
        rw [if_neg (by simp), if_neg e1, if_neg (by omega)])
      refine Ev_eq (f := fun k => impl_WinOf.l0 k t t 1 [] a0 a1 a2 a3 a4 a5 a6 a7 a8 a9) ?_ (fun k => by simp only [impl_WinOf.j1])
      have h := impl_wins t a3 1 ht.2 h3 (by omega) a0 a1 a2 a4 a5 a6 a7 a8 a9 61 t [] (by omega) (by omega) (by omega) (by simp)
      have e : wins t a3 1 61 t [] = [⟨t, t + a3⟩] := by
        unfold wins
        rw [if_pos (by omega), if_pos (by omega)]
        unfold wins
        rw [if_neg (by omega)]
        rfl
      rw [e] at h
      exact h
    · rw [if_neg e3]
      have h4' := h4 (by omega)
      refine Ev_eq (f := fun k => impl_WinOf.j1 k t 0 a4 a0 a1 a2 a3 a4 a5 a6 a7 a8 a9) ?_ (fun k => by
        simp only [impl_WinOf.j0]
        rw [if_neg (by simp), if_neg e1, if_pos (by omega)])
      refine Ev_eq (f := fun k => impl_WinOf.l0 k t 0 a4 [] a0 a1 a2 a3 a4 a5 a6 a7 a8 a9) ?_ (fun k => by simp only [impl_WinOf.j1])
      exact impl_wins t a3 a4 ht.2 h3 ⟨h4'.1, by omega⟩ a0 a1 a2 a4 a5 a6 a7 a8 a9 61 0 [] (by omega) (by omega) (by omega) (by simp)
theorem impl_winsNo (a0 a1 a2 a3 a4 a5 a6 : Int) (a7 : Bool) (a8 a9 t : Int) (h : ¬ (jobOk a0 a1 a2 a3 a4 a5 a6 a8 a9 = true ∧ 0 ≤ t ∧ t ≤ 60)) : Ev (fun k => impl_WinOf.f k a0 a1 a2 a3 a4 a5 a6 a7 a8 a9 t) [] := by
  have key : ∀ k, impl_WinOf.f (k + 2) a0 a1 a2 a3 a4 a5 a6 a7 a8 a9 t = impl_WinOf.j0 (k + 2) t true a0 a1 a2 a3 a4 a5 a6 a7 a8 a9 := fun k => by
    simp only [impl_WinOf.f, implJobOk_is, Option.bind_some, in_is]
    by_cases hj : jobOk a0 a1 a2 a3 a4 a5 a6 a8 a9 = true
    · rw [if_pos hj, decide_eq_false (fun e => h ⟨hj, e⟩)]
      rfl
    · rw [if_neg hj]
  refine Ev_two (fun k => ?_)
  rw [key]
  simp only [impl_WinOf.j0]
  rfl
theorem frWins_ev (l : List S34) (hl : l.length ≤ 1048576) : Ev (fun k => laws_frWins.f k l l) true := by
  have h := loop (fun k (_ : Unit) i => laws_frWins.l0 k l l i) l.length (fun _ _ => True) (fun r => r = true)
    (fun j s hj _ => .inl ⟨(), trivial, fun r hr => Ev_eq hr (fun k => by
      simp only [laws_frWins.l0]
      rw [if_pos (by omega), if_pos (by omega), if_pos (by omega), wrap_nat hj (by omega)]
      simp)⟩)
    (fun s _ => ⟨true, Ev_now1 (fun k => by simp only [laws_frWins.l0]; rw [if_neg (by omega)]), rfl⟩) () trivial
  obtain ⟨r, hr, rfl⟩ := h
  unfold laws_frWins.f
  simp only [if_true]
  exact hr
theorem frOk_is : laws_frOk.f = some true := by decide +kernel
theorem wins_stop (t s st : Int) (n : Nat) (f : Int) (out : List S34) (h : t < f) : wins t s st n f out = out := by
  cases n with
  | zero => rfl
  | succ n => unfold wins; rw [if_neg (by omega)]
theorem wins_fixed (t s : Int) (ht : 0 ≤ t) (hs : 1 ≤ s) (m : Nat) : ∀ (f : Int) (n : Nat) (out : List S34), t - t % s = f + s * (m : Int) → m + 1 ≤ n → wins t s s n f out = out ++ [⟨t - t % s, t - t % s + s⟩] := by
  obtain ⟨_, q2, q3, q4⟩ := tmod_is (s := s) ht hs
  induction m with
  | zero =>
    intro f n out h hn
    have hf : f = t - t % s := by simp at h; omega
    obtain ⟨n, rfl⟩ : ∃ k, n = k + 1 := ⟨n - 1, by omega⟩
    unfold wins
    rw [if_pos (by omega), if_pos (by omega), wins_stop _ _ _ _ _ _ (by omega), hf]
  | succ m ih =>
    intro f n out h hn
    obtain ⟨n, rfl⟩ : ∃ k, n = k + 1 := ⟨n - 1, by omega⟩
    have hm : 0 ≤ s * (m : Int) := Int.mul_nonneg (by omega) (by omega)
    have he : s * ((m + 1 : Nat) : Int) = s * (m : Int) + s := by rw [show ((m + 1 : Nat) : Int) = (m : Int) + 1 by omega, Int.mul_add, Int.mul_one]
    rw [he] at h
    unfold wins
    rw [if_pos (by omega), if_neg (by omega)]
    exact ih (f + s) n out (by omega) (by omega)
theorem slide_fixed (t s : Int) (ht : 0 ≤ t ∧ t ≤ 60) (hs : 1 ≤ s ∧ s ≤ 20) : winsOf 2 s s t = winsOf 1 s 0 t := by
  unfold winsOf
  rw [if_neg (by decide), if_neg (by decide), if_pos rfl]
  have h1 := Int.mul_ediv_add_emod t s
  have h2 : 0 ≤ t / s := Int.ediv_nonneg ht.1 (by omega)
  have h3 : t / s ≤ t := Int.ediv_le_self _ ht.1
  have h := wins_fixed t s ht.1 hs.1 (t / s).toNat 0 61 [] (by rw [Int.toNat_of_nonneg h2]; omega) (by omega)
  simpa using h
theorem jobOk_turn {a0 a1 a2 a3 a4 a5 a6 a8 a9 : Int} (h : jobOk a0 a1 a2 a3 a4 a5 a6 a8 a9 = true) : jobOk a0 a1 1 a3 0 a5 a6 a8 a9 = true ∧ jobOk a0 a1 2 a3 a3 a5 a6 a8 a9 = true ∧ jobOk a0 a1 3 a3 0 a5 a6 a8 a9 = true := by
  unfold jobOk at h ⊢
  simp only [Bool.and_eq_true, decide_eq_true_eq] at h
  obtain ⟨⟨⟨⟨⟨⟨⟨⟨h0, h1⟩, h2⟩, h3⟩, h4⟩, h5⟩, h6⟩, h8⟩, h9⟩ := h
  have hw : wrap64 (4 * a3) = 4 * a3 := wrap_id (by omega) (by omega)
  refine ⟨?_, ?_, ?_⟩
  · simp [h0, h1, h3, h5, h6, h8, h9]
  · simp [h0, h1, h3, h5, h6, h8, h9, hw]
    omega
  · simp [h0, h1, h3, h5, h6, h8, h9]
theorem FnWinStep : laws_FnWinStep.Pure := by
  intro l _ _ hx
  apply Ev.rounds
  unfold laws_FnWinStep.f
  by_cases hl : (l.length : Int) > 1048576
  · simp only [if_pos hl]
    exact Ev.now _
  · simp only [if_neg hl]
    obtain ⟨b, ho, hb⟩ := open_ev (l := l) (by omega) hx
    obtain ⟨a0, a1, a2, a3, a4, a5, a6, a7, a8, a9, t, hd⟩ := drawwinof_ev hb ho
    have hspec : Ev (fun k => spec_JobOk.f k a0 a1 a2 a3 a4 a5 a6 a7 a8 a9) (jobOk a0 a1 a2 a3 a4 a5 a6 a8 a9) := Ev_two (fun k => specJobOk_is k a0 a1 a2 a3 a4 a5 a6 a7 a8 a9)
    have himpl : Ev (fun k => impl_JobOk.f k a0 a1 a2 a3 a4 a5 a6 a7 a8 a9) (jobOk a0 a1 a2 a3 a4 a5 a6 a8 a9) := Ev_two (fun k => implJobOk_is k a0 a1 a2 a3 a4 a5 a6 a7 a8 a9)
    refine Ev.bind hd (Ev.bind himpl (Ev.bind hspec ?_))
    simp only [bne_self_eq_false, Bool.false_eq_true, if_false]
    refine Ev.bind hspec ?_
    have hout : ¬ (jobOk a0 a1 a2 a3 a4 a5 a6 a8 a9 = true ∧ 0 ≤ t ∧ t ≤ 60) → Ev (fun k => laws_FnWinStep.j0 k t true a0 a1 a2 a3 a4 a5 a6 a7 a8 a9) true := fun h => by
      refine Ev.step (f := fun k => _) (fun k => by simp only [laws_FnWinStep.j0, if_true]; rfl) ?_
      refine Ev.bind (impl_winsNo a0 a1 a2 a3 a4 a5 a6 a7 a8 a9 t h) ?_
      simp only [List.length_nil]
      rw [frOk_is]
      exact Ev.now _
    cases hj : jobOk a0 a1 a2 a3 a4 a5 a6 a8 a9 with
    | false =>
      simp only [Bool.false_eq_true, if_false]
      exact hout (by rw [hj]; simp)
    | true =>
      simp only [if_true]
      by_cases h0 : t < 0
      · simp only [if_pos h0]
        exact hout (by omega)
      · simp only [if_neg h0]
        by_cases h60 : t > 60
        · simp only [decide_eq_true h60]
          exact hout (by omega)
        · simp only [decide_eq_false h60]
          have ht : 0 ≤ t ∧ t ≤ 60 := by omega
          obtain ⟨j1, j2, j3⟩ := jobOk_turn hj
          have hs := (jobOk_says hj).2.2.1
          have w1 := impl_winsOf a0 a1 1 a3 0 a5 a6 a7 a8 a9 t j1 ht
          have w2 := impl_winsOf a0 a1 2 a3 a3 a5 a6 a7 a8 a9 t j2 ht
          have w3 := impl_winsOf a0 a1 3 a3 0 a5 a6 a7 a8 a9 t j3 ht
          rw [slide_fixed t a3 ht hs] at w2
          obtain ⟨q1, q2, q3, q4⟩ := tmod_is (s := a3) ht.1 hs.1
          have x1 : winsOf 1 a3 0 t = [⟨t - t % a3, t - t % a3 + a3⟩] := by unfold winsOf; rw [if_pos rfl]
          have x3 : winsOf 3 a3 0 t = [⟨t, t + a3⟩] := by unfold winsOf; rw [if_neg (by decide), if_pos rfl]
          rw [x1] at w1 w2
          rw [x3] at w3
          refine Ev.step (f := fun k => _) (fun k => by simp only [laws_FnWinStep.j0]; rw [if_neg (by simp)]) ?_
          refine Ev.bind w1 (Ev.bind w2 (Ev.bind w3 ?_))
          simp only [List.length_cons, List.length_nil]
          refine Ev.bind (frWins_ev _ (by simp)) ?_
          have r1 : rd_T34 [(⟨t - t % a3, t - t % a3 + a3⟩ : S34)] 0 = ⟨t - t % a3, t - t % a3 + a3⟩ := rfl
          have r3 : rd_T34 [(⟨t, t + a3⟩ : S34)] 0 = ⟨t, t + a3⟩ := rfl
          simp only [r1, r3, impl_WinTouch.f]
          rw [if_pos (show t - t % a3 < t + a3 by omega), decide_eq_true (show t < t - t % a3 + a3 by omega)]
          simp
          exact Ev.now _

end Go.Proofs.Ytkmckalckafloaa.Pure
