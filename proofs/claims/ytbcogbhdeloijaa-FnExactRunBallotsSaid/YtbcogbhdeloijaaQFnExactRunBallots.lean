-- Written for this claim by the session's own program (drive.py).
import Derived.Test.YtbcogbhdeloijaaRFnExactRunBallots
import Derived.Test.YtbcogbhdeloijaaPFnExactRunBallotsx0
import Derived.Test.YtbcogbhdeloijaaVOpen
namespace Go.Proofs.Ytbcogbhdeloijaa.PFnExactRunBallots
open Go.RowKit Go.ChangeShapes Go.WideShapes Go.Proofs.YtbcogbhdeloijaaW.PrintWords Go.Proofs.YtbcogbhdeloijaaW.PrintLast Go.Proofs.Ytbcogbhdeloijaa.Opens
set_option linter.unusedVariables false
def good74 (x : S74) : Prop := ((Lit.int .i64 x.f0).wf = true) ∧ ((Lit.int .i64 x.f1).wf = true) ∧ (x.f2.length ≤ maxLen ∧ ∀ x_ ∈ x.f2, (Lit.int .i64 x_).wf = true) ∧ (x.f3.length ≤ maxLen ∧ ∀ x_ ∈ x.f3, (Lit.int .i64 x_).wf = true)
theorem opens_S74 : Opens Try.prog 74 k74 good74 := by
  intro H enc w fuel cs x h
  obtain ⟨xs, n, _, rfl, hl, hlen, hf⟩ := DataW.trod_struct Try.underlying74 h
  obtain ⟨y0, K0, g0⟩ := field_at 0 0 1 _ rfl rfl (by kernel_rfl) hlen hf (show Opens Try.prog 3 _ _ from (opens_int Try.underlying3))
  obtain ⟨y1, K1, g1⟩ := field_at 1 1 1 _ rfl rfl (by kernel_rfl) hlen hf (show Opens Try.prog 3 _ _ from (opens_int Try.underlying3))
  obtain ⟨y2, K2, g2⟩ := field_at 2 2 1 _ rfl rfl (by kernel_rfl) hlen hf (show Opens Try.prog 25 _ _ from (opens_slice Try.underlying25 (by kernel_rfl) (opens_int Try.underlying3)))
  obtain ⟨y3, K3, g3⟩ := field_at 3 3 1 _ rfl rfl (by kernel_rfl) hlen hf (show Opens Try.prog 25 _ _ from (opens_slice Try.underlying25 (by kernel_rfl) (opens_int Try.underlying3)))
  have hl' : cs.length = 4 := hl.trans (by kernel_rfl)
  rw [cut_off cs 3 1 (by omega)] at K3
  exact ⟨⟨y0, y1, y2, y3⟩, ⟨_, _, cut_one cs 0 1, K0, ⟨_, _, cut_one cs 1 1, K1, ⟨_, _, cut_one cs 2 1, K2, K3⟩⟩⟩, ⟨g0, g1, g2, g3⟩⟩
/-- The law, of plain values. -/
def laws_FnExactRunBallots.Good : Prop := ∀ (a0 : Int) (l1 : List (S74)), (Lit.int .i64 a0).wf = true → (l1.length ≤ maxLen ∧ ∀ x_ ∈ l1, good74 x_) → ∃ k, laws_FnExactRunBallots.Pass k a0 l1
end Go.Proofs.Ytbcogbhdeloijaa.PFnExactRunBallots
