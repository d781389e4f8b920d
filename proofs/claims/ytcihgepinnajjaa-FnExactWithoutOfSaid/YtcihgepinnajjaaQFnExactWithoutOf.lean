-- Written for this claim by the session's own program (drive.py).
import Derived.Test.YtcihgepinnajjaaRFnExactWithoutOf
import Derived.Test.YtcihgepinnajjaaPFnExactWithoutOfx0
import Derived.Test.YtcihgepinnajjaaVOpen
namespace Go.Proofs.Ytcihgepinnajjaa.PFnExactWithoutOf
open Go.RowKit Go.ChangeShapes Go.WideShapes Go.Proofs.YtcihgepinnajjaaW.PrintWords Go.Proofs.YtcihgepinnajjaaW.PrintLast Go.Proofs.Ytcihgepinnajjaa.Opens
set_option linter.unusedVariables false
def good42 (x : S42) : Prop := (x.f0.length ≤ maxLen ∧ ∀ x_ ∈ x.f0, (Lit.int .i64 x_).wf = true) ∧ (x.f1.length ≤ maxLen ∧ ∀ x_ ∈ x.f1, x_.length ≤ maxLen ∧ ∀ xx_ ∈ x_, (Lit.int .i64 xx_).wf = true)
theorem opens_S42 : Opens Try.prog 42 k42 good42 := by
  intro H enc w fuel cs x h
  obtain ⟨xs, n, _, rfl, hl, hlen, hf⟩ := DataW.trod_struct Try.underlying42 h
  obtain ⟨y0, K0, g0⟩ := field_at 0 0 1 _ rfl rfl (by kernel_rfl) hlen hf (show Opens Try.prog 39 _ _ from (opens_slice Try.underlying39 (by kernel_rfl) (opens_int Try.underlying3)))
  obtain ⟨y1, K1, g1⟩ := field_at 1 1 1 _ rfl rfl (by kernel_rfl) hlen hf (show Opens Try.prog 40 _ _ from (opens_slice Try.underlying40 (by kernel_rfl) (opens_slice Try.underlying39 (by kernel_rfl) (opens_int Try.underlying3))))
  have hl' : cs.length = 2 := hl.trans (by kernel_rfl)
  rw [cut_off cs 1 1 (by omega)] at K1
  exact ⟨⟨y0, y1⟩, ⟨_, _, cut_one cs 0 1, K0, K1⟩, ⟨g0, g1⟩⟩
/-- The law, of plain values. -/
def laws_FnExactWithoutOf.Good : Prop := ∀ (y0 : S42) (y1 : S42), good42 y0 → good42 y1 → ∃ k, laws_FnExactWithoutOf.Pass k y0.f0 y0.f1 y1.f0 y1.f1
end Go.Proofs.Ytcihgepinnajjaa.PFnExactWithoutOf
