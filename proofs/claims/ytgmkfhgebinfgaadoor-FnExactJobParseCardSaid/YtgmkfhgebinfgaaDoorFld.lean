/- The contract of a job's fields: the ten words, and where the numbers are. No condition but that the job lies somewhere. -/
import Derived.Test.YtgmkfhgebinfgaaDoorNum
set_option linter.unusedVariables false
set_option linter.unusedSimpArgs false
namespace Go.Proofs.YtgmkfhgebinfgaaDoor.Num
open Go.RowKit Go.Proofs.YtgmkfhgebinfgaaDoorW.PrintWords

/-- The words of a job's lines. -/
def names : List ByteArray := [⟨#[115, 111, 117, 114, 99, 101, 115]⟩, ⟨#[116, 97, 115, 107, 115]⟩, ⟨#[119, 105, 110, 100, 111, 119, 115]⟩, ⟨#[115, 105, 122, 101]⟩, ⟨#[115, 116, 101, 112]⟩, ⟨#[108, 97, 116, 101]⟩, ⟨#[116, 101, 108, 108]⟩, ⟨#[112, 105, 101, 99, 101]⟩, ⟨#[108, 101, 97, 115, 116]⟩, ⟨#[114, 111, 111, 109]⟩]
def wordCells : Array Value := #[.string ⟨#[115, 111, 117, 114, 99, 101, 115]⟩, .string ⟨#[116, 97, 115, 107, 115]⟩, .string ⟨#[119, 105, 110, 100, 111, 119, 115]⟩, .string ⟨#[115, 105, 122, 101]⟩, .string ⟨#[115, 116, 101, 112]⟩, .string ⟨#[108, 97, 116, 101]⟩, .string ⟨#[116, 101, 108, 108]⟩, .string ⟨#[112, 105, 101, 99, 101]⟩, .string ⟨#[108, 101, 97, 115, 116]⟩, .string ⟨#[114, 111, 111, 109]⟩]
def ptrCells (g : Nat) : Array Value := #[.pointer (some ⟨g, 0, none⟩), .pointer (some ⟨g, 1, none⟩), .pointer (some ⟨g, 2, none⟩), .pointer (some ⟨g, 3, none⟩), .pointer (some ⟨g, 4, none⟩), .pointer (some ⟨g, 5, none⟩), .pointer (some ⟨g, 6, none⟩), .pointer none, .pointer (some ⟨g, 8, none⟩), .pointer (some ⟨g, 9, none⟩)]

set_option maxRecDepth 100000 in
set_option maxHeartbeats 4000000 in
theorem fields_any (g : Nat) (w : World) :
    Calls Tryd.prog 15 #[.pointer (some ⟨g, 0, none⟩)] w fun e w' => e = .returned (.tuple #[.slice (some ⟨w.heap.size, 0, none⟩) 10 10, .slice (some ⟨w.heap.size + 1, 0, none⟩) 10 10]) ∧ ∃ n, w' = ((w.alloc (.cells wordCells 9)).alloc (.cells (ptrCells g) 44)).drewN n := by
  go_enter Tryd.func15, Tryd.ntmps15
  go_wp2
  go_region
  all_goals
    go_wp2
    go_ret2
    exact ⟨rfl, 1, rfl⟩
/-- What a call of fields leaves: two new blocks; of what was there nothing has turned. -/
theorem fields_get (g : Nat) (w : World) :
    Calls Tryd.prog 15 #[.pointer (some ⟨g, 0, none⟩)] w fun e w' => ∃ h1 h2 : Nat, e = .returned (.tuple #[.slice (some ⟨h1, 0, none⟩) 10 10, .slice (some ⟨h2, 0, none⟩) 10 10]) ∧
      w'.heap[h1]? = some (.cells wordCells 9 (0, 0)) ∧ w'.heap[h2]? = some (.cells (ptrCells g) 44 (0, 0)) ∧ w.heap.size ≤ h1 ∧ h1 < h2 ∧ Below w.heap.size w w' := by
  refine (fields_any g w).mono fun e w' hw => ?_
  obtain ⟨he, n, rfl⟩ := hw
  refine ⟨_, _, he, ?_, ?_, Nat.le_refl _, Nat.lt_succ_self _, ?_⟩
  · exact blk_drewN (blk_alloc (blk_new _ _) _) _
  · exact blk_drewN (by have h := blk_new (w.alloc (.cells wordCells 9)) (.cells (ptrCells g) 44); rwa [World.size_alloc] at h) _
  · exact pw_below_drewN (below_alloc (below_alloc (Below.refl _ _) _) _) _
end Go.Proofs.YtgmkfhgebinfgaaDoor.Num
