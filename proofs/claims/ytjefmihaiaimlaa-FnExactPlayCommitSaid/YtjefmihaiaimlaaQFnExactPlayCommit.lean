-- Written for this claim by the session's own program (drive.py).
import Derived.Test.YtjefmihaiaimlaaRFnExactPlayCommit
import Derived.Test.YtjefmihaiaimlaaPFnExactPlayCommitx0
import Derived.Test.YtjefmihaiaimlaaVOpen
namespace Go.Proofs.Ytjefmihaiaimlaa.PFnExactPlayCommit
open Go.RowKit Go.ChangeShapes Go.WideShapes Go.Proofs.YtjefmihaiaimlaaW.PrintWords Go.Proofs.YtjefmihaiaimlaaW.PrintLast Go.Proofs.Ytjefmihaiaimlaa.Opens
set_option linter.unusedVariables false
def good58 (x : S58) : Prop := ((Lit.int .i64 x.f0).wf = true) ∧ ((Lit.int .i64 x.f1).wf = true) ∧ ((Lit.int .i64 x.f2).wf = true)
theorem opens_S58 : Opens Try.prog 58 k58 good58 := by
  intro H enc w fuel cs x h
  obtain ⟨xs, n, _, rfl, hl, hlen, hf⟩ := DataW.trod_struct Try.underlying58 h
  obtain ⟨y0, K0, g0⟩ := field_at 0 0 1 _ rfl rfl (by kernel_rfl) hlen hf (show Opens Try.prog 3 _ _ from (opens_int Try.underlying3))
  obtain ⟨y1, K1, g1⟩ := field_at 1 1 1 _ rfl rfl (by kernel_rfl) hlen hf (show Opens Try.prog 3 _ _ from (opens_int Try.underlying3))
  obtain ⟨y2, K2, g2⟩ := field_at 2 2 1 _ rfl rfl (by kernel_rfl) hlen hf (show Opens Try.prog 3 _ _ from (opens_int Try.underlying3))
  have hl' : cs.length = 3 := hl.trans (by kernel_rfl)
  rw [cut_off cs 2 1 (by omega)] at K2
  exact ⟨⟨y0, y1, y2⟩, ⟨_, _, cut_one cs 0 1, K0, ⟨_, _, cut_one cs 1 1, K1, K2⟩⟩, ⟨g0, g1, g2⟩⟩
/-- The law, of plain values. -/
def laws_FnExactPlayCommit.Good : Prop := ∀ (a0 : Int) (l1 : List (S58)), (Lit.int .i64 a0).wf = true → (l1.length ≤ maxLen ∧ ∀ x_ ∈ l1, good58 x_) → ∃ k, laws_FnExactPlayCommit.Pass k a0 l1
end Go.Proofs.Ytjefmihaiaimlaa.PFnExactPlayCommit
