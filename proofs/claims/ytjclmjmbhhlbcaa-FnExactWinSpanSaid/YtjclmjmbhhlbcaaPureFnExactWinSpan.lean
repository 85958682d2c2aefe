/- The law FnExactWinSpan over numbers: its printed function answers true. No condition but that each number is one of its kind. -/
import Derived.Test.YtjclmjmbhhlbcaaHFnExactWinSpanx2
set_option linter.unusedVariables false
set_option linter.unusedSimpArgs false
namespace Go.Proofs.Ytjclmjmbhhlbcaa.Pure
open Go.RowKit Go.Proofs.Ytjclmjmbhhlbcaa.PFnExactWinSpan Go.Proofs.YtjclmjmbhhlbcaaW.PrintWords Go.Proofs.YtjclmjmbhhlbcaaW.PrintLast

theorem FnExactWinSpan : ∀ (a0_0 : Int) (a0_1 : Int), (Lit.int .i64 a0_0).wf = true → (Lit.int .i64 a0_1).wf = true → ∀ (a1_0 : Int) (a1_1 : Int), (Lit.int .i64 a1_0).wf = true → (Lit.int .i64 a1_1).wf = true → laws_FnExactWinSpan.f a0_0 a0_1 a1_0 a1_1 = some true := by
  intro a0 a1 _ _ b0 b1 _ _
  have e : spec_WinSpan.f a0 a1 b0 b1 = some (mn a0 b0, mx a1 b1) := by
    unfold spec_WinSpan.f mn mx
    split <;> split <;> simp_all
  have e2 : impl_WinSpan.f a0 a1 b0 b1 = some (mn a0 b0, mx a1 b1) := rfl
  simp [laws_FnExactWinSpan.f, laws_toWinWin.f, e, e2, laws_eqWinWin.f]

end Go.Proofs.Ytjclmjmbhhlbcaa.Pure
