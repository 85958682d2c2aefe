/- impl's JobParse, walked: what it answers is what its lines say. Conditions: the library's variables hold what they are laid with; no line longer than 2^48 bytes. -/
import Derived.Test.YtgmkfhgebinfgaaDoorJob
import Derived.Deep.LoopGhost
set_option linter.unusedVariables false
set_option linter.unusedSimpArgs false
namespace Go.Proofs.YtgmkfhgebinfgaaDoor.Num
open Go.RowKit Go.Proofs.YtgmkfhgebinfgaaDoorW.PrintWords Go.Proofs.YtgmkfhgebinfgaaDoorW.PrintLast Go.Proofs.YtgmkfhgebinfgaaDoor.PFnExactJobParse

theorem cut_any (i : Nat) (l : ByteArray) (w : World) : Calls Tryd.prog 16 #[.string l, .string (nameOf i ++ ⟨#[32]⟩)] w fun e w' => e = .returned (.tuple #[.string (restOf i l), .bool (hasPre i l)]) ∧ w = w' := by
  have h := Tryd.strings_CutPrefix l (nameOf i ++ ⟨#[32]⟩) w
  unfold restOf hasPre
  generalize Lib.trimPrefix l.data.toList (nameOf i ++ ⟨#[32]⟩).data.toList = x at h ⊢
  generalize Lib.hasPrefix l.data.toList (nameOf i ++ ⟨#[32]⟩).data.toList = y at h ⊢
  exact h.mono fun e w' hw => ⟨hw.1, hw.2.symm⟩
/-- What JobParse leaves. -/
def JobPost (lines : List ByteArray) (w : World) (e : Ending) (w' : World) : Prop := e = .returned (.tuple #[.agg (jobCells (jobRes lines).1), .int .i64 ((jobRes lines).2 : Int)]) ∧ Below w.heap.size w w'
theorem add_at (g i : Nat) : (⟨g, 0, none⟩ : Addr).add i = ⟨g, i, none⟩ := by
  unfold Addr.add
  split
  · rename_i h
    rw [show i = 0 by simpa using h]
  · simp
/-- The walk's state: behind i lines. -/
def Sta (lines : List ByteArray) (w wr : World) (g2 gj : Nat) (a1 a2 : Addr) (i : Int) : Prop :=
  ∃ ns h1 h2, ns.length = i.toNat ∧ readJob (lines.drop ns.length) ns = readJob lines [] ∧ St w wr g2 gj h1 h2 ns ∧ Pl w g2 gj h1 h2 ∧ a1 = ⟨h1, 0, none⟩ ∧ a2 = ⟨h2, 0, none⟩
theorem fields_st (lines : List ByteArray) (w : World) : Calls Tryd.prog 15 #[.pointer (some ⟨w.heap.size + 1, 0, none⟩)] ((w.alloc (.cells (jobCells []) 25)).alloc (.cells (jobCells []) 25)) fun e w' =>
    ∃ a1 a2 : Addr, e = .returned (.tuple #[.slice (some a1) 10 10, .slice (some a2) 10 10]) ∧ Sta lines w w' w.heap.size (w.heap.size + 1) a1 a2 0 := by
  refine (fields_get (w.heap.size + 1) _).mono fun e w' hw => ?_
  obtain ⟨h1, h2, he, hf1, hf2, hle, hlt, hb⟩ := hw
  have hs : ((w.alloc (.cells (jobCells []) 25)).alloc (.cells (jobCells []) 25)).heap.size = w.heap.size + 2 := by rw [World.size_alloc, World.size_alloc]
  rw [hs] at hle
  refine ⟨_, _, he, [], h1, h2, rfl, rfl, ⟨?_, ?_, hf1, hf2, ?_⟩, ⟨Nat.le_refl _, by omega, by omega, hlt⟩, rfl, rfl⟩
  · refine blk_below ?_ hb
    have h := blk_new (w.alloc (.cells (jobCells []) 25)) (.cells (jobCells []) 25)
    rwa [World.size_alloc] at h
  · exact blk_below (blk_alloc (blk_new _ _) _) hb
  · exact (below_alloc (below_alloc (Below.refl _ _) _) _).trans (hb.mono (by rw [hs]; omega))
section
variable {lines : List ByteArray} {w wr w1 : World} {g2 gj : Nat} {a1 a2 : Addr} {i : Int}
theorem Sta.step (s : Sta lines w wr g2 gj a1 a2 i) (h : Below wr.heap.size wr w1) : Sta lines w w1 g2 gj a1 a2 i := by
  obtain ⟨ns, h1, h2, a, b, c, d⟩ := s
  exact ⟨ns, h1, h2, a, b, c.step h, d⟩
theorem Sta.word (s : Sta lines w wr g2 gj a1 a2 i) (h : i.toNat < 10) : wr.cell? (a1.add i.toNat) = some (.string (nameOf i.toNat)) := by
  obtain ⟨ns, h1, h2, a, b, c, d, rfl, rfl⟩ := s
  rw [add_at, blk_cell c.f1]
  exact wordCells_at _ h
theorem Sta.ptr (s : Sta lines w wr g2 gj a1 a2 i) (h : i.toNat < 10) (h7 : i.toNat ≠ 7) : wr.cell? (a2.add i.toNat) = some (.pointer (some ⟨gj, i.toNat, none⟩)) := by
  obtain ⟨ns, h1, h2, a, b, c, d, rfl, rfl⟩ := s
  rw [add_at, blk_cell c.f2]
  exact ptrCells_at _ _ h h7
theorem Sta.ptr7 (s : Sta lines w wr g2 gj a1 a2 7) : wr.cell? (a2.add (7 : Int).toNat) = some (.pointer none) := by
  obtain ⟨ns, h1, h2, a, b, c, d, rfl, rfl⟩ := s
  rw [add_at, blk_cell c.f2]
  rfl
theorem Sta.below (s : Sta lines w wr g2 gj a1 a2 i) : Below w.heap.size w wr := by
  obtain ⟨ns, h1, h2, a, b, c, d⟩ := s
  exact c.b
theorem Sta.cell (s : Sta lines w wr g2 gj a1 a2 i) (h : i.toNat < 10) : (∃ v, wr.cell? ⟨gj, i.toNat, none⟩ = some v) ∧ wr.frozen? ⟨gj, i.toNat, none⟩ = false := by
  obtain ⟨ns, h1, h2, a, b, c, d⟩ := s
  refine ⟨?_, blk_frozen c.j _⟩
  rw [blk_cell c.j]
  exact jobCells_get ns _ h
/-- What is left to read, one line on. -/
theorem Sta.line (s : Sta lines w wr g2 gj a1 a2 i) (h0 : 0 ≤ i) (h : i.toNat < lines.length) : ∃ ns, ns.length = i.toNat ∧ readJob (lines[i.toNat] :: lines.drop (i.toNat + 1)) ns = readJob lines [] := by
  obtain ⟨ns, h1, h2, a, b, c, d⟩ := s
  refine ⟨ns, a, ?_⟩
  rw [← b, a, List.drop_eq_getElem_cons h]
theorem Sta.bad (s : Sta lines w wr g2 gj a1 a2 i) (h0 : 0 ≤ i) (h : i.toNat < lines.length) (hb : i = 10 ∨ lineNum i.toNat lines[i.toNat] = none) : jobRes lines = ([], i.toNat + 1) := by
  obtain ⟨ns, a, b⟩ := s.line h0 h
  unfold jobRes
  rw [← b, readJob, a]
  rcases hb with rfl | hb
  · rfl
  · rw [hb]
    by_cases e : i.toNat = 10
    · rw [if_pos e]
    · rw [if_neg e]
theorem Sta.put (s : Sta lines w wr g2 gj a1 a2 i) (h0 : 0 ≤ i) (h : i.toNat < lines.length) (h10 : i.toNat < 10) (h7 : i.toNat ≠ 7) {n : Int} (hn : lineNum i.toNat lines[i.toNat] = some n) :
    Sta lines w (wr.setCell ⟨gj, i.toNat, none⟩ (.int .i64 n)) g2 gj a1 a2 (i + 1) := by
  obtain ⟨ns, h1, h2, a, b, c, d, e⟩ := s
  have e1 : (i + 1).toNat = i.toNat + 1 := by omega
  refine ⟨ns ++ [n], h1, h2, by rw [e1]; simp [a], ?_, by have := c.put d n (by omega) (by omega); rwa [a] at this, d, e⟩
  rw [← b, a, List.drop_eq_getElem_cons h, readJob, a, if_neg (by omega), hn]
  simp [a]
theorem Sta.put7 (s : Sta lines w wr g2 gj a1 a2 7) (h : (7 : Int).toNat < lines.length) {n : Int} (hn : lineNum (7 : Int).toNat lines[(7 : Int).toNat] = some n) :
    Sta lines w (wr.setCell ⟨gj, 7, none⟩ (.bool (n == 1))) g2 gj a1 a2 (7 + 1) := by
  obtain ⟨ns, h1, h2, a, b, c, d, e⟩ := s
  refine ⟨ns ++ [n], h1, h2, by simp [a], ?_, c.put7 d n (by simpa using a), d, e⟩
  rw [← b, a, List.drop_eq_getElem_cons h, readJob, a, if_neg (by decide), hn]
  simp [a]
end
/-- A struct of ten cells is written. -/
theorem put_ten {w : World} {g : Nat} {t : TypeId} {u0 u1 u2 u3 u4 u5 u6 u7 u8 u9 : Value} (h : w.heap[g]? = some (.cells #[u0, u1, u2, u3, u4, u5, u6, u7, u8, u9] t (0, 0))) (v0 v1 v2 v3 v4 v5 v6 v7 v8 v9 : Value) :
    ((((((((((w.setCell ⟨g, 0, none⟩ v0).setCell ⟨g, 1, none⟩ v1).setCell ⟨g, 2, none⟩ v2).setCell ⟨g, 3, none⟩ v3).setCell ⟨g, 4, none⟩ v4).setCell ⟨g, 5, none⟩ v5).setCell ⟨g, 6, none⟩ v6).setCell ⟨g, 7, none⟩ v7).setCell ⟨g, 8, none⟩ v8).setCell ⟨g, 9, none⟩ v9).heap[g]? = some (.cells #[v0, v1, v2, v3, v4, v5, v6, v7, v8, v9] t (0, 0)) := by
  have h0 := blk_put (cs' := #[v0, u1, u2, u3, u4, u5, u6, u7, u8, u9]) h 0 v0 rfl
  have h1 := blk_put (cs' := #[v0, v1, u2, u3, u4, u5, u6, u7, u8, u9]) h0 1 v1 rfl
  have h2 := blk_put (cs' := #[v0, v1, v2, u3, u4, u5, u6, u7, u8, u9]) h1 2 v2 rfl
  have h3 := blk_put (cs' := #[v0, v1, v2, v3, u4, u5, u6, u7, u8, u9]) h2 3 v3 rfl
  have h4 := blk_put (cs' := #[v0, v1, v2, v3, v4, u5, u6, u7, u8, u9]) h3 4 v4 rfl
  have h5 := blk_put (cs' := #[v0, v1, v2, v3, v4, v5, u6, u7, u8, u9]) h4 5 v5 rfl
  have h6 := blk_put (cs' := #[v0, v1, v2, v3, v4, v5, v6, u7, u8, u9]) h5 6 v6 rfl
  have h7 := blk_put (cs' := #[v0, v1, v2, v3, v4, v5, v6, v7, u8, u9]) h6 7 v7 rfl
  have h8 := blk_put (cs' := #[v0, v1, v2, v3, v4, v5, v6, v7, v8, u9]) h7 8 v8 rfl
  have h9 := blk_put (cs' := #[v0, v1, v2, v3, v4, v5, v6, v7, v8, v9]) h8 9 v9 rfl
  exact h9
theorem put_ten_below {w0 w : World} {g : Nat} (h : Below w0.heap.size w0 w) (hg : w0.heap.size ≤ g) (v0 v1 v2 v3 v4 v5 v6 v7 v8 v9 : Value) :
    Below w0.heap.size w0 ((((((((((w.setCell ⟨g, 0, none⟩ v0).setCell ⟨g, 1, none⟩ v1).setCell ⟨g, 2, none⟩ v2).setCell ⟨g, 3, none⟩ v3).setCell ⟨g, 4, none⟩ v4).setCell ⟨g, 5, none⟩ v5).setCell ⟨g, 6, none⟩ v6).setCell ⟨g, 7, none⟩ v7).setCell ⟨g, 8, none⟩ v8).setCell ⟨g, 9, none⟩ v9) :=
  below_set (below_set (below_set (below_set (below_set (below_set (below_set (below_set (below_set (below_set h hg) hg) hg) hg) hg) hg) hg) hg) hg) hg
/-- The cells of a block of ten. -/
theorem ten_cells {w : World} {g : Nat} {t : TypeId} {u0 u1 u2 u3 u4 u5 u6 u7 u8 u9 : Value} (h : w.heap[g]? = some (.cells #[u0, u1, u2, u3, u4, u5, u6, u7, u8, u9] t (0, 0))) :
    w.cell? ⟨g, 0, none⟩ = some u0 ∧ w.cell? ⟨g, 1, none⟩ = some u1 ∧ w.cell? ⟨g, 2, none⟩ = some u2 ∧ w.cell? ⟨g, 3, none⟩ = some u3 ∧ w.cell? ⟨g, 4, none⟩ = some u4 ∧ w.cell? ⟨g, 5, none⟩ = some u5 ∧ w.cell? ⟨g, 6, none⟩ = some u6 ∧ w.cell? ⟨g, 7, none⟩ = some u7 ∧ w.cell? ⟨g, 8, none⟩ = some u8 ∧ w.cell? ⟨g, 9, none⟩ = some u9 :=
  ⟨(blk_cell h 0).trans rfl, (blk_cell h 1).trans rfl, (blk_cell h 2).trans rfl, (blk_cell h 3).trans rfl, (blk_cell h 4).trans rfl, (blk_cell h 5).trans rfl, (blk_cell h 6).trans rfl, (blk_cell h 7).trans rfl, (blk_cell h 8).trans rfl, (blk_cell h 9).trans rfl⟩
theorem ten_frozen {w : World} {g : Nat} {t : TypeId} {cs : Array Value} (h : w.heap[g]? = some (.cells cs t (0, 0))) :
    w.frozen? ⟨g, 0, none⟩ = false ∧ w.frozen? ⟨g, 1, none⟩ = false ∧ w.frozen? ⟨g, 2, none⟩ = false ∧ w.frozen? ⟨g, 3, none⟩ = false ∧ w.frozen? ⟨g, 4, none⟩ = false ∧ w.frozen? ⟨g, 5, none⟩ = false ∧ w.frozen? ⟨g, 6, none⟩ = false ∧ w.frozen? ⟨g, 7, none⟩ = false ∧ w.frozen? ⟨g, 8, none⟩ = false ∧ w.frozen? ⟨g, 9, none⟩ = false :=
  ⟨blk_frozen h 0, blk_frozen h 1, blk_frozen h 2, blk_frozen h 3, blk_frozen h 4, blk_frozen h 5, blk_frozen h 6, blk_frozen h 7, blk_frozen h 8, blk_frozen h 9⟩
/-- The ten cells of nothing. -/
abbrev zeros : Array Value := #[.int .i64 0, .int .i64 0, .int .i64 0, .int .i64 0, .int .i64 0, .int .i64 0, .int .i64 0, .bool false, .int .i64 0, .int .i64 0]
theorem jobCells_nil : jobCells [] = zeros := rfl
section
variable {lines : List ByteArray} {w wr w1 : World} {g2 gj : Nat} {a1 a2 : Addr} {i : Int}
theorem Sta.res (s : Sta lines w wr g2 gj a1 a2 i) : wr.heap[g2]? = some (.cells zeros 25 (0, 0)) := by
  obtain ⟨ns, h1, h2, a, b, c, d⟩ := s
  exact c.r
theorem post_bad (h : jobRes lines = ([], i.toNat + 1)) (h0 : 0 ≤ i) (hb : Below w.heap.size w w1) : JobPost lines w (.returned (.tuple #[.agg zeros, .int .i64 (i + 1)])) w1 := by
  refine ⟨?_, hb⟩
  rw [h, show ((i.toNat + 1 : Nat) : Int) = i + 1 by omega]
  rfl
end
set_option maxRecDepth 100000 in
theorem in_yes (n : Int) (h : 0 ≤ n ∧ n ≤ 1) (w : World) : Calls Tryd.prog 18 #[.int .i64 n, .int .i64 0, .int .i64 1] w fun e w' => e = .returned (.bool true) ∧ w = w' := by
  obtain ⟨h0, h1⟩ := h
  go_enter Tryd.func18, Tryd.ntmps18
  go_wp2
  go_ret
  exact ⟨by simp [h1], rfl⟩
set_option maxRecDepth 100000 in
theorem in_no (n : Int) (h : ¬ (0 ≤ n ∧ n ≤ 1)) (w : World) : Calls Tryd.prog 18 #[.int .i64 n, .int .i64 0, .int .i64 1] w fun e w' => e = .returned (.bool false) ∧ w = w' := by
  by_cases h0 : 0 ≤ n
  · have h1 : ¬ n ≤ 1 := fun h1 => h ⟨h0, h1⟩
    clear h
    go_enter Tryd.func18, Tryd.ntmps18
    go_wp2
    go_ret
    exact ⟨by simp [h1], rfl⟩
  · clear h
    go_enter Tryd.func18, Tryd.ntmps18
    go_wp2
    go_ret
    exact ⟨rfl, rfl⟩
theorem restOf_size (i : Nat) (l : ByteArray) : (restOf i l).size ≤ l.size := by
  have h : (restOf i l).size = (Lib.trimPrefix l.data.toList (nameOf i ++ ⟨#[32]⟩).data.toList).length := by
    unfold restOf
    exact List.size_toArray
  have e : l.size = l.data.toList.length := Array.length_toList.symm
  rw [h, e]
  unfold Lib.trimPrefix
  split
  · rw [List.length_drop]; omega
  · exact Nat.le_refl _
section
variable {lines : List ByteArray} {w wr w1 : World} {g2 gj : Nat} {a1 a2 : Addr} {i : Int}
theorem Sta.ptr7i (s : Sta lines w wr g2 gj a1 a2 i) (hi : i = 7) : wr.cell? (a2.add i.toNat) = some (.pointer none) := by
  subst hi
  exact s.ptr7
theorem Sta.cell7i (s : Sta lines w wr g2 gj a1 a2 i) (hi : i = 7) : (∃ v, wr.cell? ⟨gj, 7, none⟩ = some v) ∧ wr.frozen? ⟨gj, 7, none⟩ = false := by
  subst hi
  exact s.cell (by decide)
theorem Sta.put7i (s : Sta lines w wr g2 gj a1 a2 i) (hi : i = 7) (h : i.toNat < lines.length) {n : Int} (hn : lineNum i.toNat lines[i.toNat] = some n) : Sta lines w (wr.setCell ⟨gj, 7, none⟩ (.bool (n == 1))) g2 gj a1 a2 (i + 1) := by
  subst hi
  exact s.put7 h hn
/-- Behind the last line. -/
theorem Sta.vals (s : Sta lines w wr g2 gj a1 a2 i) (hi : i = (lines.length : Int)) : ∃ (x0 x1 x2 x3 x4 x5 x6 : Int) (x7 : Bool) (x8 x9 : Int), wr.heap[gj]? = some (.cells #[.int .i64 x0, .int .i64 x1, .int .i64 x2, .int .i64 x3, .int .i64 x4, .int .i64 x5, .int .i64 x6, .bool x7, .int .i64 x8, .int .i64 x9] 25 (0, 0)) ∧
    Hid (∃ ns, ns.length = lines.length ∧ readJob lines [] = .inr ns ∧ jobOkL ns = jobOk x0 x1 x2 x3 x4 x5 x6 x8 x9 ∧ jobCells ns = #[.int .i64 x0, .int .i64 x1, .int .i64 x2, .int .i64 x3, .int .i64 x4, .int .i64 x5, .int .i64 x6, .bool x7, .int .i64 x8, .int .i64 x9]) := by
  obtain ⟨ns, h1, h2, a, b, c, d⟩ := s
  subst hi
  rw [Int.toNat_natCast] at a
  rw [a, List.drop_length] at b
  exact ⟨_, _, _, _, _, _, _, _, _, _, c.j, Lib.hid ⟨ns, a, b.symm, rfl, rfl⟩⟩
theorem Sta.few (s : Sta lines w wr g2 gj a1 a2 i) (hi : i = (lines.length : Int)) (h : lines.length < 10) : jobRes lines = ([], lines.length + 1) := by
  obtain ⟨ns, h1, h2, a, b, c, d⟩ := s
  subst hi
  rw [Int.toNat_natCast] at a
  rw [a, List.drop_length] at b
  unfold jobRes
  rw [← b]
  simp only [readJob]
  rw [if_pos (by omega)]
theorem post_few (h : jobRes lines = ([], lines.length + 1)) (hb : Below w.heap.size w w1) : JobPost lines w (.returned (.tuple #[.agg zeros, .int .i64 ((lines.length : Int) + 1)])) w1 := by
  refine ⟨?_, hb⟩
  rw [h, show ((lines.length + 1 : Nat) : Int) = (lines.length : Int) + 1 by omega]
  rfl
theorem post_good {ns : List Int} {cs : Array Value} (h : jobRes lines = (ns, 0)) (hc : jobCells ns = cs) (hb : Below w.heap.size w w1) : JobPost lines w (.returned (.tuple #[.agg cs, .int .i64 0])) w1 := by
  refine ⟨?_, hb⟩
  rw [h]
  subst hc
  rfl
end
end Go.Proofs.YtgmkfhgebinfgaaDoor.Num
