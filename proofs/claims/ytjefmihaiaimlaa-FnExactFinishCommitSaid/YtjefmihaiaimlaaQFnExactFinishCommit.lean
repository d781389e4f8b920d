-- Written for this claim by the session's own program (drive.py).
import Derived.Test.YtjefmihaiaimlaaRFnExactFinishCommit
import Derived.Test.YtjefmihaiaimlaaPFnExactFinishCommitx0
import Derived.Test.YtjefmihaiaimlaaOpen
namespace Go.Proofs.Ytjefmihaiaimlaa.PFnExactFinishCommit
open Go.RowKit Go.ChangeShapes Go.WideShapes Go.Proofs.YtjefmihaiaimlaaW.PrintWords Go.Proofs.YtjefmihaiaimlaaW.PrintLast Go.Proofs.Ytjefmihaiaimlaa.Opens
set_option linter.unusedVariables false
def good24 (x : S24) : Prop := (x.f0.length ≤ maxLen ∧ ∀ x_ ∈ x.f0, (Lit.int .i64 x_).wf = true) ∧ (x.f1.length ≤ maxLen ∧ ∀ x_ ∈ x.f1, (Lit.int .i64 x_).wf = true) ∧ ((Lit.int .i64 x.f2).wf = true)
theorem opens_S24 : Opens Try.prog 24 k24 good24 := by
  intro H enc w fuel cs x h
  obtain ⟨xs, n, _, rfl, hl, hlen, hf⟩ := DataW.trod_struct Try.underlying24 h
  obtain ⟨y0, K0, g0⟩ := field_at 0 0 1 _ rfl rfl (by kernel_rfl) hlen hf (show Opens Try.prog 22 _ _ from (opens_slice Try.underlying22 (by kernel_rfl) (opens_int Try.underlying3)))
  obtain ⟨y1, K1, g1⟩ := field_at 1 1 1 _ rfl rfl (by kernel_rfl) hlen hf (show Opens Try.prog 22 _ _ from (opens_slice Try.underlying22 (by kernel_rfl) (opens_int Try.underlying3)))
  obtain ⟨y2, K2, g2⟩ := field_at 2 2 1 _ rfl rfl (by kernel_rfl) hlen hf (show Opens Try.prog 3 _ _ from (opens_int Try.underlying3))
  have hl' : cs.length = 3 := hl.trans (by kernel_rfl)
  rw [cut_off cs 2 1 (by omega)] at K2
  exact ⟨⟨y0, y1, y2⟩, ⟨_, _, cut_one cs 0 1, K0, ⟨_, _, cut_one cs 1 1, K1, K2⟩⟩, ⟨g0, g1, g2⟩⟩
/-- The law, of plain values. -/
def laws_FnExactFinishCommit.Good : Prop := ∀ (y0 : S24), good24 y0 → ∃ k, laws_FnExactFinishCommit.Pass k y0.f0 y0.f1 y0.f2
end Go.Proofs.Ytjefmihaiaimlaa.PFnExactFinishCommit
