/- What a job's lines say, as a Lean function, and how the walk's state goes along. No condition. -/
import Derived.Test.YtgmkfhgebinfgaaDoorFld
import Derived.Test.YtgmkfhgebinfgaaDoorOk
import Derived.Test.YtgmkfhgebinfgaaDoorWLast
set_option linter.unusedVariables false
set_option linter.unusedSimpArgs false
namespace Go.Proofs.YtgmkfhgebinfgaaDoor.Num
open Go.RowKit Go.Proofs.YtgmkfhgebinfgaaDoorW.PrintWords Go.Proofs.YtgmkfhgebinfgaaDoorW.PrintLast

/-- The i-th word. -/
def nameOf (i : Nat) : ByteArray := names.getD i ByteArray.empty
/-- Does a line begin with the i-th word and a blank? What stands behind them. -/
def hasPre (i : Nat) (l : ByteArray) : Bool := Lib.hasPrefix l.data.toList (nameOf i ++ ⟨#[32]⟩).data.toList
def restOf (i : Nat) (l : ByteArray) : ByteArray := ⟨(Lib.trimPrefix l.data.toList (nameOf i ++ ⟨#[32]⟩).data.toList).toArray⟩
/-- The number of the i-th line. -/
def lineNum (i : Nat) (l : ByteArray) : Option Int := if hasPre i l = true then (match isNum (restOf i l) with
  | some n => if i = 7 then (if 0 ≤ n ∧ n ≤ 1 then some n else none) else some n
  | none => none) else none
/-- Lines read: the wrong one, or the numbers. -/
def readJob : List ByteArray → List Int → Sum Nat (List Int)
  | [], ns => .inr ns
  | l :: ls, ns => if ns.length = 10 then .inl (ns.length + 1) else match lineNum ns.length l with
    | none => .inl (ns.length + 1)
    | some n => readJob ls (ns ++ [n])
def jobOkL (ns : List Int) : Bool := jobOk (ns.getD 0 0) (ns.getD 1 0) (ns.getD 2 0) (ns.getD 3 0) (ns.getD 4 0) (ns.getD 5 0) (ns.getD 6 0) (ns.getD 8 0) (ns.getD 9 0)
/-- What JobParse answers: the job's numbers (none: all nothing), and the line. -/
def jobRes (lines : List ByteArray) : List Int × Nat := match readJob lines [] with
  | .inl k => ([], k)
  | .inr ns => if ns.length < 10 then ([], lines.length + 1) else (if jobOkL ns = true then (ns, 0) else ([], lines.length + 1))
def jobCells (ns : List Int) : Array Value := #[.int .i64 (ns.getD 0 0), .int .i64 (ns.getD 1 0), .int .i64 (ns.getD 2 0), .int .i64 (ns.getD 3 0), .int .i64 (ns.getD 4 0), .int .i64 (ns.getD 5 0), .int .i64 (ns.getD 6 0), .bool (ns.getD 7 0 == 1), .int .i64 (ns.getD 8 0), .int .i64 (ns.getD 9 0)]

theorem nameOf_size (i : Nat) : (nameOf i).size ≤ 7 := by
  unfold nameOf
  rcases Nat.lt_or_ge i 10 with h | h
  · have : i = 0 ∨ i = 1 ∨ i = 2 ∨ i = 3 ∨ i = 4 ∨ i = 5 ∨ i = 6 ∨ i = 7 ∨ i = 8 ∨ i = 9 := by omega
    rcases this with rfl | rfl | rfl | rfl | rfl | rfl | rfl | rfl | rfl | rfl <;> decide
  · rw [List.getD_eq_getElem?_getD, List.getElem?_eq_none (by exact h)]
    decide
theorem wordCells_at (i : Nat) (h : i < 10) : wordCells[i]? = some (.string (nameOf i)) := by
  have : i = 0 ∨ i = 1 ∨ i = 2 ∨ i = 3 ∨ i = 4 ∨ i = 5 ∨ i = 6 ∨ i = 7 ∨ i = 8 ∨ i = 9 := by omega
  rcases this with rfl | rfl | rfl | rfl | rfl | rfl | rfl | rfl | rfl | rfl <;> rfl
theorem ptrCells_at (g i : Nat) (h : i < 10) (h7 : i ≠ 7) : (ptrCells g)[i]? = some (.pointer (some ⟨g, i, none⟩)) := by
  have : i = 0 ∨ i = 1 ∨ i = 2 ∨ i = 3 ∨ i = 4 ∨ i = 5 ∨ i = 6 ∨ i = 8 ∨ i = 9 := by omega
  rcases this with rfl | rfl | rfl | rfl | rfl | rfl | rfl | rfl | rfl <;> rfl
theorem ptrCells_7 (g : Nat) : (ptrCells g)[7]? = some (.pointer none) := rfl
theorem getD_lt (ns : List Int) (n : Int) (j : Nat) (h : j < ns.length) : (ns ++ [n]).getD j 0 = ns.getD j 0 := by
  rw [List.getD_eq_getElem?_getD, List.getD_eq_getElem?_getD, List.getElem?_append_left h]
theorem getD_at (ns : List Int) (n : Int) (j : Nat) (h : j = ns.length) : (ns ++ [n]).getD j 0 = n := by
  subst h
  simp
theorem getD_gt (ns : List Int) (n : Int) (j : Nat) (h : ns.length < j) : (ns ++ [n]).getD j 0 = ns.getD j 0 := by
  rw [List.getD_eq_getElem?_getD, List.getD_eq_getElem?_getD, List.getElem?_eq_none (by simp; omega), List.getElem?_eq_none (by omega)]
theorem getD_snoc (ns : List Int) (n : Int) (j : Nat) (h : j ≠ ns.length) : (ns ++ [n]).getD j 0 = ns.getD j 0 := by
  rcases Nat.lt_or_ge j ns.length with h1 | h1
  · exact getD_lt ns n j h1
  · exact getD_gt ns n j (by omega)
theorem jobCells_put (ns : List Int) (n : Int) (h : ns.length < 10) (h7 : ns.length ≠ 7) : (jobCells ns).setIfInBounds ns.length (.int .i64 n) = jobCells (ns ++ [n]) := by
  have key : ∀ i, ns.length = i → i < 10 → i ≠ 7 → (jobCells ns).setIfInBounds i (.int .i64 n) = jobCells (ns ++ [n]) := by
    intro i hi h1 h2
    have : i = 0 ∨ i = 1 ∨ i = 2 ∨ i = 3 ∨ i = 4 ∨ i = 5 ∨ i = 6 ∨ i = 8 ∨ i = 9 := by omega
    have e := getD_at ns n i hi.symm
    have f := fun j (hj : j ≠ i) => getD_snoc ns n j (by omega)
    rcases this with rfl | rfl | rfl | rfl | rfl | rfl | rfl | rfl | rfl <;> (unfold jobCells; rw [e]; (first | rw [f 0 (by decide)] | skip); (first | rw [f 1 (by decide)] | skip); (first | rw [f 2 (by decide)] | skip); (first | rw [f 3 (by decide)] | skip); (first | rw [f 4 (by decide)] | skip); (first | rw [f 5 (by decide)] | skip); (first | rw [f 6 (by decide)] | skip); (first | rw [f 7 (by decide)] | skip); (first | rw [f 8 (by decide)] | skip); (first | rw [f 9 (by decide)] | skip); simp)
  exact key _ rfl h h7
theorem jobCells_put7 (ns : List Int) (n : Int) (h : ns.length = 7) : (jobCells ns).setIfInBounds 7 (.bool (n == 1)) = jobCells (ns ++ [n]) := by
  have e := getD_at ns n 7 h.symm
  have f := fun j (hj : j ≠ 7) => getD_snoc ns n j (by omega)
  unfold jobCells
  rw [e]
  (first | rw [f 0 (by decide)] | skip)
  (first | rw [f 1 (by decide)] | skip)
  (first | rw [f 2 (by decide)] | skip)
  (first | rw [f 3 (by decide)] | skip)
  (first | rw [f 4 (by decide)] | skip)
  (first | rw [f 5 (by decide)] | skip)
  (first | rw [f 6 (by decide)] | skip)
  (first | rw [f 7 (by decide)] | skip)
  (first | rw [f 8 (by decide)] | skip)
  (first | rw [f 9 (by decide)] | skip)
  simp
theorem jobCells_get (ns : List Int) (i : Nat) (h : i < 10) : ∃ v, (jobCells ns)[i]? = some v := by
  have : i < (jobCells ns).size := h
  exact ⟨_, Array.getElem?_eq_getElem this⟩
/-- The walk's memory behind some lines. -/
structure St (w wr : World) (g2 gj h1 h2 : Nat) (ns : List Int) : Prop where
  j : wr.heap[gj]? = some (.cells (jobCells ns) 25 (0, 0))
  r : wr.heap[g2]? = some (.cells (jobCells []) 25 (0, 0))
  f1 : wr.heap[h1]? = some (.cells wordCells 9 (0, 0))
  f2 : wr.heap[h2]? = some (.cells (ptrCells gj) 44 (0, 0))
  b : Below w.heap.size w wr
/-- Where the four blocks lie. -/
structure Pl (w : World) (g2 gj h1 h2 : Nat) : Prop where
  a : w.heap.size ≤ g2
  b : g2 < gj
  c : gj < h1
  d : h1 < h2
theorem St.step {w wr w1 : World} {g2 gj h1 h2 : Nat} {ns : List Int} (s : St w wr g2 gj h1 h2 ns) (h : Below wr.heap.size wr w1) : St w w1 g2 gj h1 h2 ns :=
  ⟨blk_below s.j h, blk_below s.r h, blk_below s.f1 h, blk_below s.f2 h, s.b.trans (h.mono s.b.size)⟩
theorem St.put {w wr : World} {g2 gj h1 h2 : Nat} {ns : List Int} (s : St w wr g2 gj h1 h2 ns) (p : Pl w g2 gj h1 h2) (n : Int) (h : ns.length < 10) (h7 : ns.length ≠ 7) : St w (wr.setCell ⟨gj, ns.length, none⟩ (.int .i64 n)) g2 gj h1 h2 (ns ++ [n]) :=
  ⟨blk_put s.j _ _ (jobCells_put ns n h h7), blk_far s.r (by have := p.b; simp; omega) _, blk_far s.f1 (by have := p.c; simp; omega) _, blk_far s.f2 (by have := p.c; have := p.d; simp; omega) _, below_set s.b (by have := p.a; have := p.b; omega)⟩
theorem St.put7 {w wr : World} {g2 gj h1 h2 : Nat} {ns : List Int} (s : St w wr g2 gj h1 h2 ns) (p : Pl w g2 gj h1 h2) (n : Int) (h7 : ns.length = 7) : St w (wr.setCell ⟨gj, 7, none⟩ (.bool (n == 1))) g2 gj h1 h2 (ns ++ [n]) :=
  ⟨blk_put s.j _ _ (jobCells_put7 ns n h7), blk_far s.r (by have := p.b; simp; omega) _, blk_far s.f1 (by have := p.c; simp; omega) _, blk_far s.f2 (by have := p.c; have := p.d; simp; omega) _, below_set s.b (by have := p.a; have := p.b; omega)⟩
end Go.Proofs.YtgmkfhgebinfgaaDoor.Num
