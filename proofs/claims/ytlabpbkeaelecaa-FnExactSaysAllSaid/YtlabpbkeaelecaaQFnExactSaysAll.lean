-- Written for this claim by the session's own program (drive.py).
import Derived.Test.YtlabpbkeaelecaaPFnExactSaysAllx5
import Derived.Test.YtlabpbkeaelecaaPFnExactSaysAllx0
import Derived.Test.YtlabpbkeaelecaaOpen
namespace Go.Proofs.Ytlabpbkeaelecaa.PFnExactSaysAll
open Go.RowKit Go.ChangeShapes Go.WideShapes Go.Proofs.YtlabpbkeaelecaaW.PrintWords Go.Proofs.YtlabpbkeaelecaaW.PrintLast Go.Proofs.Ytlabpbkeaelecaa.Opens
set_option linter.unusedVariables false
def good40 (x : S40) : Prop := (x.f0.length ≤ maxLen ∧ ∀ x_ ∈ x.f0, (Lit.int .i64 x_).wf = true) ∧ (x.f1.length ≤ maxLen ∧ ∀ x_ ∈ x.f1, (Lit.int .i64 x_).wf = true) ∧ ((Lit.int .i64 x.f2).wf = true)
theorem opens_S40 : Opens Try.prog 40 k40 good40 := by
  intro H enc w fuel cs x h
  obtain ⟨xs, n, _, rfl, hl, hlen, hf⟩ := DataW.trod_struct Try.underlying40 h
  obtain ⟨y0, K0, g0⟩ := field_at 0 0 1 _ rfl rfl (by kernel_rfl) hlen hf (show Opens Try.prog 28 _ _ from (opens_slice Try.underlying28 (by kernel_rfl) (opens_int Try.underlying3)))
  obtain ⟨y1, K1, g1⟩ := field_at 1 1 1 _ rfl rfl (by kernel_rfl) hlen hf (show Opens Try.prog 28 _ _ from (opens_slice Try.underlying28 (by kernel_rfl) (opens_int Try.underlying3)))
  obtain ⟨y2, K2, g2⟩ := field_at 2 2 1 _ rfl rfl (by kernel_rfl) hlen hf (show Opens Try.prog 3 _ _ from (opens_int Try.underlying3))
  have hl' : cs.length = 3 := hl.trans (by kernel_rfl)
  rw [cut_off cs 2 1 (by omega)] at K2
  exact ⟨⟨y0, y1, y2⟩, ⟨_, _, cut_one cs 0 1, K0, ⟨_, _, cut_one cs 1 1, K1, K2⟩⟩, ⟨g0, g1, g2⟩⟩
/-- The law, of plain values. -/
def laws_FnExactSaysAll.Good : Prop := ∀ (y0 : S40), good40 y0 → ∃ k, laws_FnExactSaysAll.f k y0.f0 y0.f1 y0.f2 = some true
end Go.Proofs.Ytlabpbkeaelecaa.PFnExactSaysAll
