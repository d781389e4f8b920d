-- Written for this claim by the session's own program (drive.py).
import Derived.Test.YtcihgepinnajjaaRFnExactRangeOf
import Derived.Test.YtcihgepinnajjaaPFnExactRangeOfx0
import Derived.Test.YtcihgepinnajjaaOpen
namespace Go.Proofs.Ytcihgepinnajjaa.PFnExactRangeOf
open Go.RowKit Go.ChangeShapes Go.WideShapes Go.Proofs.YtcihgepinnajjaaW.PrintWords Go.Proofs.YtcihgepinnajjaaW.PrintLast Go.Proofs.Ytcihgepinnajjaa.Opens
set_option linter.unusedVariables false
def good98 (x : S98) : Prop := (True) ∧ ((Lit.int .i64 x.f1).wf = true)
theorem opens_S98 : Opens Try.prog 98 k98 good98 := by
  intro H enc w fuel cs x h
  obtain ⟨xs, n, _, rfl, hl, hlen, hf⟩ := DataW.trod_struct Try.underlying98 h
  obtain ⟨y0, K0, g0⟩ := field_at 0 0 1 _ rfl rfl (by kernel_rfl) hlen hf (show Opens Try.prog 4 _ _ from (opens_bool Try.underlying4))
  obtain ⟨y1, K1, g1⟩ := field_at 1 1 1 _ rfl rfl (by kernel_rfl) hlen hf (show Opens Try.prog 3 _ _ from (opens_int Try.underlying3))
  have hl' : cs.length = 2 := hl.trans (by kernel_rfl)
  rw [cut_off cs 1 1 (by omega)] at K1
  exact ⟨⟨y0, y1⟩, ⟨_, _, cut_one cs 0 1, K0, K1⟩, ⟨g0, g1⟩⟩
def good54 (x : S54) : Prop := ((Lit.int .i64 x.f0).wf = true) ∧ (x.f1.length ≤ maxLen ∧ ∀ x_ ∈ x.f1, good98 x_)
theorem opens_S54 : Opens Try.prog 54 k54 good54 := by
  intro H enc w fuel cs x h
  obtain ⟨xs, n, _, rfl, hl, hlen, hf⟩ := DataW.trod_struct Try.underlying54 h
  obtain ⟨y0, K0, g0⟩ := field_at 0 0 1 _ rfl rfl (by kernel_rfl) hlen hf (show Opens Try.prog 3 _ _ from (opens_int Try.underlying3))
  obtain ⟨y1, K1, g1⟩ := field_at 1 1 1 _ rfl rfl (by kernel_rfl) hlen hf (show Opens Try.prog 52 _ _ from (opens_slice Try.underlying52 (by kernel_rfl) opens_S98))
  have hl' : cs.length = 2 := hl.trans (by kernel_rfl)
  rw [cut_off cs 1 1 (by omega)] at K1
  exact ⟨⟨y0, y1⟩, ⟨_, _, cut_one cs 0 1, K0, K1⟩, ⟨g0, g1⟩⟩
/-- The law, of plain values. -/
def laws_FnExactRangeOf.Good : Prop := ∀ (l0 : List (S54)) (a1 : Int) (a2 : Int), (l0.length ≤ maxLen ∧ ∀ x_ ∈ l0, good54 x_) → (Lit.int .i64 a1).wf = true → (Lit.int .i64 a2).wf = true → ∃ k, laws_FnExactRangeOf.Pass k l0 a1 a2
end Go.Proofs.Ytcihgepinnajjaa.PFnExactRangeOf
