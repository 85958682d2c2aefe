/- impl's JobParse, walked. Conditions: the library's variables hold what they are laid with; no line longer than 2^48 bytes. -/
import Derived.Test.YtgmkfhgebinfgaaDoorWalk
set_option linter.unusedVariables false
set_option linter.unusedSimpArgs false
namespace Go.Proofs.YtgmkfhgebinfgaaDoor.Num
open Go.RowKit Go.Proofs.YtgmkfhgebinfgaaDoorW.PrintWords Go.Proofs.YtgmkfhgebinfgaaDoorW.PrintLast Go.Proofs.YtgmkfhgebinfgaaDoor.PFnExactJobParse

set_option maxRecDepth 100000 in
set_option maxHeartbeats 4000000 in
theorem jobParse_any (A0 : Option Addr) (c0 : Nat) (lines : List ByteArray) (w : World) (hr0 : Kd.C Kd.string w A0 lines.length lines) (hsz : ∀ l ∈ lines, l.size ≤ 281474976710656) (hg : Gl w) :
    Calls Tryd.prog 7 #[.slice A0 lines.length c0] w (JobPost lines w) := by
  have hmax := hr0.2.1
  have HR := Lib.hid hr0
  have HS := Lib.hid hsz
  have HG := Lib.hid hg
  clear hr0 hsz hg
  go_enter Tryd.func7, Tryd.ntmps7
  go_wp2_with (go_at_call 15; refine (fields_st lines w).mono ?_; rintro e w1 ⟨a1, a2, rfl, st⟩; have HST := Lib.hid st; clear st)
  go_loopw [19] (fun v wr => ∃ i : Int, v = .int .i64 i ∧ 0 ≤ i ∧ i ≤ 10 ∧ i ≤ lines.length ∧ Hid (Sta lines w wr w.heap.size (w.heap.size + 1) a1 a2 i))
    (fun v _ => lines.length - (intOf v).toNat)
  case atStart => exact ⟨0, rfl, by omega, by omega, by omega, HST⟩
  case round =>
    obtain ⟨i, rfl, h0, hn10, hnl, HT⟩ := hrel
    by_cases hlt : i < (lines.length : Int)
    · have hlb : decide (i < (lines.length : Int)) = true := decide_eq_true hlt
      obtain ⟨ad, hA, hc⟩ := Kd.at_string HR.out i h0 hlt
      subst hA
      have hln : i.toNat < lines.length := by omega
      have hcl : wr.cell? (ad.add i.toNat) = some (.string (lines[i.toNat])) := by
        rw [← Below.cell HT.out.below (World.block_lt_of_cell? w _ hc)] at hc
        rw [hc]
        simp [rdOf, List.getD_eq_getElem?_getD, hln]
      have HL : Hid (lines[i.toNat].size ≤ 281474976710656) := Lib.hid (HS.out _ (List.getElem_mem hln))
      have BAD : Hid (i = 10 ∨ lineNum i.toNat lines[i.toNat] = none → jobRes lines = ([], i.toNat + 1)) := Lib.hid (HT.out.bad h0 hln)
      have PUT : Hid (∀ n, lineNum i.toNat lines[i.toNat] = some n → ∀ W, Sta lines w W w.heap.size (w.heap.size + 1) a1 a2 i → i.toNat < 10 → i.toNat ≠ 7 → Sta lines w (W.setCell ⟨w.heap.size + 1, i.toNat, none⟩ (.int .i64 n)) w.heap.size (w.heap.size + 1) a1 a2 (i + 1)) :=
        Lib.hid (fun n hn W s h1 h2 => s.put h0 hln h1 h2 hn)
      have PUT7 : Hid (∀ n, lineNum i.toNat lines[i.toNat] = some n → ∀ W, Sta lines w W w.heap.size (w.heap.size + 1) a1 a2 i → i = 7 → Sta lines w (W.setCell ⟨w.heap.size + 1, 7, none⟩ (.bool (n == 1))) w.heap.size (w.heap.size + 1) a1 a2 (i + 1)) :=
        Lib.hid (fun n hn W s h7 => s.put7i h7 hln hn)
      clear hc
      have p0 : (0 ≤ i) = True := eq_true h0
      have q0 : (i < (lines.length : Int)) = True := eq_true hlt
      by_cases h10 : i = 10
      · have e10 : (i == 10) = true := by simpa using h10
        have BR := Lib.hid (BAD.out (.inl h10))
        clear h10
        obtain ⟨r0, r1, r2, r3, r4, r5, r6, r7, r8, r9⟩ := ten_cells HT.out.res
        obtain ⟨f0, f1, f2, f3, f4, f5, f6, f7, f8, f9⟩ := ten_frozen HT.out.res
        go_wp2
        refine bodyPost_ret (results_ct rfl _ _ w.heap.size 25 zeros (0, 0) _ rfl (put_ten HT.out.res _ _ _ _ _ _ _ _ _ _) Tryd.underlying25 rfl (by kernel_rfl)) rfl ?_
        exact post_bad BR.out h0 (put_ten_below HT.out.below (Nat.le_refl _) _ _ _ _ _ _ _ _ _ _)
      · have e10 : (i == 10) = false := by simpa using h10
        have h9 : i.toNat < 10 := by omega
        have hcw := HT.out.word h9
        have hns := nameOf_size i.toNat
        have GW := Lib.hid (HG.out.step HT.out.below)
        have RS : Hid ((restOf i.toNat lines[i.toNat]).size ≤ 281474976710656) := Lib.hid (Nat.le_trans (restOf_size _ _) HL.out)
        clear h10
        generalize hline : lines[i.toNat] = line at hcl HL BAD PUT PUT7 RS
        clear hline
        rcases hn : isNum (restOf i.toNat line) with _ | n
        · have BR := Lib.hid (BAD.out (.inr (by unfold lineNum; rw [hn]; exact ite_self _)))
          have HN := Lib.hid hn
          clear hn
          cases hp : hasPre i.toNat line
          all_goals
            go_wp2_with (first | (go_at_call 16; refine (cut_any i.toNat _ _).mono ?_; rintro e w2 ⟨rfl, rfl⟩) | (go_at_call 17; refine (numberOf_no _ RS.out HN.out _ GW.out).mono ?_; rintro e w3 ⟨n, rfl, hb3⟩; have HT3 := Lib.hid (HT.out.step hb3); clear hb3; obtain ⟨r0, r1, r2, r3, r4, r5, r6, r7, r8, r9⟩ := ten_cells HT3.out.res; obtain ⟨f0, f1, f2, f3, f4, f5, f6, f7, f8, f9⟩ := ten_frozen HT3.out.res))
            refine bodyPost_ret (results_ct rfl _ _ w.heap.size 25 zeros (0, 0) _ rfl (put_ten HT3.out.res _ _ _ _ _ _ _ _ _ _) Tryd.underlying25 rfl (by kernel_rfl)) rfl ?_
            exact post_bad BR.out h0 (put_ten_below HT3.out.below (Nat.le_refl _) _ _ _ _ _ _ _ _ _ _)
        · cases hp : hasPre i.toNat line with
          | false =>
            have BR := Lib.hid (BAD.out (.inr (by unfold lineNum; rw [hp]; rfl)))
            have HN := Lib.hid hn
            clear hn
            go_wp2_with (first | (go_at_call 16; refine (cut_any i.toNat _ _).mono ?_; rintro e w2 ⟨rfl, rfl⟩) | (go_at_call 17; refine (numberOf_yes _ RS.out n HN.out _ GW.out).mono ?_; rintro e w3 ⟨rfl, hb3⟩; have HT3 := Lib.hid (HT.out.step hb3); clear hb3; obtain ⟨r0, r1, r2, r3, r4, r5, r6, r7, r8, r9⟩ := ten_cells HT3.out.res; obtain ⟨f0, f1, f2, f3, f4, f5, f6, f7, f8, f9⟩ := ten_frozen HT3.out.res))
            refine bodyPost_ret (results_ct rfl _ _ w.heap.size 25 zeros (0, 0) _ rfl (put_ten HT3.out.res _ _ _ _ _ _ _ _ _ _) Tryd.underlying25 rfl (by kernel_rfl)) rfl ?_
            exact post_bad BR.out h0 (put_ten_below HT3.out.below (Nat.le_refl _) _ _ _ _ _ _ _ _ _ _)
          | true =>
            by_cases h7 : i = 7
            · by_cases hin : 0 ≤ n ∧ n ≤ 1
              · have LN : lineNum i.toNat line = some n := by
                  unfold lineNum
                  rw [if_pos hp, hn, h7]
                  exact if_pos hin
                have P7 := Lib.hid (fun W s => PUT7.out n LN W s h7)
                have HN := Lib.hid hn
                have H7 := Lib.hid h7
                have HI := Lib.hid hin
                clear hn LN h7 hin
                go_wp2_with (first | (go_at_call 16; refine (cut_any i.toNat _ _).mono ?_; rintro e w2 ⟨rfl, rfl⟩) | (go_at_call 17; refine (numberOf_yes _ RS.out n HN.out _ GW.out).mono ?_; rintro e w3 ⟨rfl, hb3⟩; have HT3 := Lib.hid (HT.out.step hb3); clear hb3; have hcp := HT3.out.ptr7i H7.out; obtain ⟨⟨v7, hv7⟩, hf7⟩ := HT3.out.cell7i H7.out) | (go_at_call 18; refine (in_yes n HI.out _).mono ?_; rintro e w4 ⟨rfl, rfl⟩))
                go_roundw
                case rel => exact ⟨i + 1, rfl, by omega, by omega, by omega, Lib.hid (P7.out _ HT3.out)⟩
                case measure => simp [intOf]; omega
              · have LN : lineNum i.toNat line = none := by
                  unfold lineNum
                  rw [if_pos hp, hn, h7]
                  exact if_neg hin
                have BR := Lib.hid (BAD.out (.inr LN))
                have HN := Lib.hid hn
                have H7 := Lib.hid h7
                have HI := Lib.hid hin
                clear hn LN h7 hin
                go_wp2_with (first | (go_at_call 16; refine (cut_any i.toNat _ _).mono ?_; rintro e w2 ⟨rfl, rfl⟩) | (go_at_call 17; refine (numberOf_yes _ RS.out n HN.out _ GW.out).mono ?_; rintro e w3 ⟨rfl, hb3⟩; have HT3 := Lib.hid (HT.out.step hb3); clear hb3; have hcp := HT3.out.ptr7i H7.out; obtain ⟨r0, r1, r2, r3, r4, r5, r6, r7, r8, r9⟩ := ten_cells HT3.out.res; obtain ⟨f0, f1, f2, f3, f4, f5, f6, f7, f8, f9⟩ := ten_frozen HT3.out.res) | (go_at_call 18; refine (in_no n HI.out _).mono ?_; rintro e w4 ⟨rfl, rfl⟩))
                refine bodyPost_ret (results_ct rfl _ _ w.heap.size 25 zeros (0, 0) _ rfl (put_ten HT3.out.res _ _ _ _ _ _ _ _ _ _) Tryd.underlying25 rfl (by kernel_rfl)) rfl ?_
                exact post_bad BR.out h0 (put_ten_below HT3.out.below (Nat.le_refl _) _ _ _ _ _ _ _ _ _ _)
            · have LN : lineNum i.toNat line = some n := by
                unfold lineNum
                rw [if_pos hp, hn]
                exact if_neg (by omega)
              have h7n : i.toNat ≠ 7 := by omega
              have PN := Lib.hid (fun W s => PUT.out n LN W s h9 h7n)
              have HN := Lib.hid hn
              have H7 := Lib.hid h7n
              clear hn LN h7 h7n
              go_wp2_with (first | (go_at_call 16; refine (cut_any i.toNat _ _).mono ?_; rintro e w2 ⟨rfl, rfl⟩) | (go_at_call 17; refine (numberOf_yes _ RS.out n HN.out _ GW.out).mono ?_; rintro e w3 ⟨rfl, hb3⟩; have HT3 := Lib.hid (HT.out.step hb3); clear hb3; have hcp := HT3.out.ptr h9 H7.out; obtain ⟨⟨v7, hv7⟩, hf7⟩ := HT3.out.cell h9))
              go_roundw
              case rel => exact ⟨i + 1, rfl, by omega, by omega, by omega, Lib.hid (PN.out _ HT3.out)⟩
              case measure => simp [intOf]; omega
    · have hie : i = (lines.length : Int) := by omega
      have hlb : decide (i < (lines.length : Int)) = false := decide_eq_false hlt
      by_cases hfew : lines.length < 10
      · have BR := Lib.hid (HT.out.few hie hfew)
        have hfb : decide (lines.length < 10) = true := decide_eq_true hfew
        have hfi : decide ((lines.length : Int) < 10) = true := decide_eq_true (by omega)
        clear hie hlt
        obtain ⟨r0, r1, r2, r3, r4, r5, r6, r7, r8, r9⟩ := ten_cells HT.out.res
        obtain ⟨f0, f1, f2, f3, f4, f5, f6, f7, f8, f9⟩ := ten_frozen HT.out.res
        go_wp2
        refine bodyPost_ret (results_ct rfl _ _ w.heap.size 25 zeros (0, 0) _ rfl (put_ten HT.out.res _ _ _ _ _ _ _ _ _ _) Tryd.underlying25 rfl (by kernel_rfl)) rfl ?_
        exact post_few BR.out (put_ten_below HT.out.below (Nat.le_refl _) _ _ _ _ _ _ _ _ _ _)
      · have hl10 : lines.length = 10 := by omega
        have hfb : decide (lines.length < 10) = false := decide_eq_false hfew
        have hfi : decide ((lines.length : Int) < 10) = false := decide_eq_false (by omega)
        obtain ⟨x0, x1, x2, x3, x4, x5, x6, x7, x8, x9, hbj, HV⟩ := HT.out.vals hie
        have HB := Lib.hid hbj
        have HL10 := Lib.hid hl10
        obtain ⟨j0, j1, j2, j3, j4, j5, j6, j7, j8, j9⟩ := ten_cells hbj
        have hle10 : (lines.length : Int) ≤ 10 := by omega
        clear hie hlt hbj hl10 hfew
        cases hok : jobOk x0 x1 x2 x3 x4 x5 x6 x8 x9 with
        | false =>
          have HC := Lib.hid ((implJobOk_is 0 x0 x1 x2 x3 x4 x5 x6 x7 x8 x9).trans (congrArg some hok))
          have BR : Hid (jobRes lines = ([], lines.length + 1)) := by
            obtain ⟨ns, e1, e2, e3, e4⟩ := HV.out
            refine Lib.hid ?_
            unfold jobRes
            rw [e2]
            simp only
            rw [if_neg (by have := HL10.out; omega), if_neg (by rw [e3, hok]; decide)]
          clear hok
          go_wp2_with (go_at_call 19; refine (impl_JobOk.calls _ _ _ _ _ _ _ _ _ _ _ _ _ HC.out).mono ?_; rintro e w3 ⟨rfl, hb3⟩; have HT3 := Lib.hid (HT.out.step hb3); clear hb3; obtain ⟨r0, r1, r2, r3, r4, r5, r6, r7, r8, r9⟩ := ten_cells HT3.out.res; obtain ⟨f0, f1, f2, f3, f4, f5, f6, f7, f8, f9⟩ := ten_frozen HT3.out.res)
          refine bodyPost_ret (results_ct rfl _ _ w.heap.size 25 zeros (0, 0) _ rfl (put_ten HT3.out.res _ _ _ _ _ _ _ _ _ _) Tryd.underlying25 rfl (by kernel_rfl)) rfl ?_
          exact post_few BR.out (put_ten_below HT3.out.below (Nat.le_refl _) _ _ _ _ _ _ _ _ _ _)
        | true =>
          have HC := Lib.hid ((implJobOk_is 0 x0 x1 x2 x3 x4 x5 x6 x7 x8 x9).trans (congrArg some hok))
          have GR : Hid (∃ ns, jobRes lines = (ns, 0) ∧ jobCells ns = #[.int .i64 x0, .int .i64 x1, .int .i64 x2, .int .i64 x3, .int .i64 x4, .int .i64 x5, .int .i64 x6, .bool x7, .int .i64 x8, .int .i64 x9]) := by
            obtain ⟨ns, e1, e2, e3, e4⟩ := HV.out
            refine Lib.hid ⟨ns, ?_, e4⟩
            unfold jobRes
            rw [e2]
            simp only
            rw [if_neg (by have := HL10.out; omega), if_pos (by rw [e3, hok])]
          clear hok
          go_wp2_with (go_at_call 19; refine (impl_JobOk.calls _ _ _ _ _ _ _ _ _ _ _ _ _ HC.out).mono ?_; rintro e w3 ⟨rfl, hb3⟩; have HT3 := Lib.hid (HT.out.step hb3); have HB3 := Lib.hid (blk_below HB.out hb3); clear hb3; obtain ⟨r0, r1, r2, r3, r4, r5, r6, r7, r8, r9⟩ := ten_cells HT3.out.res; obtain ⟨f0, f1, f2, f3, f4, f5, f6, f7, f8, f9⟩ := ten_frozen HT3.out.res; obtain ⟨j0, j1, j2, j3, j4, j5, j6, j7, j8, j9⟩ := ten_cells HB3.out)
          refine bodyPost_ret (results_ct rfl _ _ w.heap.size 25 #[.int .i64 x0, .int .i64 x1, .int .i64 x2, .int .i64 x3, .int .i64 x4, .int .i64 x5, .int .i64 x6, .bool x7, .int .i64 x8, .int .i64 x9] (0, 0) _ rfl (put_ten HT3.out.res _ _ _ _ _ _ _ _ _ _) Tryd.underlying25 rfl (by kernel_rfl)) rfl ?_
          obtain ⟨ns, g1, g2⟩ := GR.out
          exact post_good g1 g2 (put_ten_below HT3.out.below (Nat.le_refl _) _ _ _ _ _ _ _ _ _ _)
end Go.Proofs.YtgmkfhgebinfgaaDoor.Num
