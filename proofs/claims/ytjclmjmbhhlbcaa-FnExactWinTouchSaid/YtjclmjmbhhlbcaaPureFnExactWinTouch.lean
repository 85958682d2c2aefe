/- The law FnExactWinTouch over numbers: its printed function answers true. No condition but that each number is one of its kind. -/
import Derived.Test.YtjclmjmbhhlbcaaPFnExactWinTouchx1
set_option linter.unusedVariables false
set_option linter.unusedSimpArgs false
namespace Go.Proofs.Ytjclmjmbhhlbcaa.Pure
open Go.RowKit Go.Proofs.Ytjclmjmbhhlbcaa.PFnExactWinTouch Go.Proofs.YtjclmjmbhhlbcaaW.PrintWords Go.Proofs.YtjclmjmbhhlbcaaW.PrintLast

theorem FnExactWinTouch : ∀ (a0_0 : Int) (a0_1 : Int), (Lit.int .i64 a0_0).wf = true → (Lit.int .i64 a0_1).wf = true → ∀ (a1_0 : Int) (a1_1 : Int), (Lit.int .i64 a1_0).wf = true → (Lit.int .i64 a1_1).wf = true → laws_FnExactWinTouch.f a0_0 a0_1 a1_0 a1_1 = some true := by
  intro a0 a1 _ _ b0 b1 _ _
  have e : impl_WinTouch.f a0 a1 b0 b1 = spec_WinTouch.f a0 a1 b0 b1 := rfl
  obtain ⟨r, h⟩ : ∃ r, spec_WinTouch.f a0 a1 b0 b1 = some r := by unfold spec_WinTouch.f; split <;> exact ⟨_, rfl⟩
  simp [laws_FnExactWinTouch.f, laws_toWinWin.f, e, h]

end Go.Proofs.Ytjclmjmbhhlbcaa.Pure
