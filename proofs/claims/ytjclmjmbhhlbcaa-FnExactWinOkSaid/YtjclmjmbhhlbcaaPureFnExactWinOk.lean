/- The law FnExactWinOk over numbers: its printed function answers true. No condition but that each number is one of its kind. -/
import Derived.Test.YtjclmjmbhhlbcaaPFnExactWinOkx1
set_option linter.unusedVariables false
set_option linter.unusedSimpArgs false
namespace Go.Proofs.Ytjclmjmbhhlbcaa.Pure
open Go.RowKit Go.Proofs.Ytjclmjmbhhlbcaa.PFnExactWinOk Go.Proofs.YtjclmjmbhhlbcaaW.PrintWords Go.Proofs.YtjclmjmbhhlbcaaW.PrintLast

theorem FnExactWinOk : ∀ (a0_0 : Int) (a0_1 : Int), (Lit.int .i64 a0_0).wf = true → (Lit.int .i64 a0_1).wf = true → laws_FnExactWinOk.f a0_0 a0_1 = some true := by
  intro a0 a1 _ _
  have e : impl_WinOk.f a0 a1 = spec_WinOk.f a0 a1 := rfl
  have hin : ∀ a b c, spec_l1In.f a b c = some (decide (a ≥ b ∧ a ≤ c)) := by
    intro a b c
    unfold spec_l1In.f
    by_cases h : a ≥ b <;> simp [h]
  obtain ⟨r, h⟩ : ∃ r, spec_WinOk.f a0 a1 = some r := by
    unfold spec_WinOk.f
    simp only [hin, Option.bind_some]
    split <;> exact ⟨_, rfl⟩
  simp [laws_FnExactWinOk.f, laws_toWinWin.f, e, h]

end Go.Proofs.Ytjclmjmbhhlbcaa.Pure
