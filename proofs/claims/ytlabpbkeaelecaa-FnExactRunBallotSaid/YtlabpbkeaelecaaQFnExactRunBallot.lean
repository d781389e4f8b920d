-- Written for this claim by the session's own program (drive.py).
import Derived.Test.YtlabpbkeaelecaaPFnExactRunBallotx7
import Derived.Test.YtlabpbkeaelecaaPFnExactRunBallotx0
import Derived.Test.YtlabpbkeaelecaaOpen
namespace Go.Proofs.Ytlabpbkeaelecaa.PFnExactRunBallot
open Go.RowKit Go.ChangeShapes Go.WideShapes Go.Proofs.YtlabpbkeaelecaaW.PrintWords Go.Proofs.YtlabpbkeaelecaaW.PrintLast Go.Proofs.Ytlabpbkeaelecaa.Opens
set_option linter.unusedVariables false
def good113 (x : S113) : Prop := ((Lit.int .i64 x.f0).wf = true) ∧ ((Lit.int .i64 x.f1).wf = true) ∧ ((Lit.int .i64 x.f2).wf = true)
theorem opens_S113 : Opens Try.prog 113 k113 good113 := by
  intro H enc w fuel cs x h
  obtain ⟨xs, n, _, rfl, hl, hlen, hf⟩ := DataW.trod_struct Try.underlying113 h
  obtain ⟨y0, K0, g0⟩ := field_at 0 0 1 _ rfl rfl (by kernel_rfl) hlen hf (show Opens Try.prog 3 _ _ from (opens_int Try.underlying3))
  obtain ⟨y1, K1, g1⟩ := field_at 1 1 1 _ rfl rfl (by kernel_rfl) hlen hf (show Opens Try.prog 3 _ _ from (opens_int Try.underlying3))
  obtain ⟨y2, K2, g2⟩ := field_at 2 2 1 _ rfl rfl (by kernel_rfl) hlen hf (show Opens Try.prog 3 _ _ from (opens_int Try.underlying3))
  have hl' : cs.length = 3 := hl.trans (by kernel_rfl)
  rw [cut_off cs 2 1 (by omega)] at K2
  exact ⟨⟨y0, y1, y2⟩, ⟨_, _, cut_one cs 0 1, K0, ⟨_, _, cut_one cs 1 1, K1, K2⟩⟩, ⟨g0, g1, g2⟩⟩
def good80 (x : S80) : Prop := ((Lit.int .i64 x.f0).wf = true) ∧ ((Lit.int .i64 x.f1).wf = true) ∧ (x.f2.length ≤ maxLen ∧ ∀ x_ ∈ x.f2, (Lit.int .i64 x_).wf = true) ∧ (x.f3.length ≤ maxLen ∧ ∀ x_ ∈ x.f3, (Lit.int .i64 x_).wf = true)
theorem opens_S80 : Opens Try.prog 80 k80 good80 := by
  intro H enc w fuel cs x h
  obtain ⟨xs, n, _, rfl, hl, hlen, hf⟩ := DataW.trod_struct Try.underlying80 h
  obtain ⟨y0, K0, g0⟩ := field_at 0 0 1 _ rfl rfl (by kernel_rfl) hlen hf (show Opens Try.prog 3 _ _ from (opens_int Try.underlying3))
  obtain ⟨y1, K1, g1⟩ := field_at 1 1 1 _ rfl rfl (by kernel_rfl) hlen hf (show Opens Try.prog 3 _ _ from (opens_int Try.underlying3))
  obtain ⟨y2, K2, g2⟩ := field_at 2 2 1 _ rfl rfl (by kernel_rfl) hlen hf (show Opens Try.prog 28 _ _ from (opens_slice Try.underlying28 (by kernel_rfl) (opens_int Try.underlying3)))
  obtain ⟨y3, K3, g3⟩ := field_at 3 3 1 _ rfl rfl (by kernel_rfl) hlen hf (show Opens Try.prog 28 _ _ from (opens_slice Try.underlying28 (by kernel_rfl) (opens_int Try.underlying3)))
  have hl' : cs.length = 4 := hl.trans (by kernel_rfl)
  rw [cut_off cs 3 1 (by omega)] at K3
  exact ⟨⟨y0, y1, y2, y3⟩, ⟨_, _, cut_one cs 0 1, K0, ⟨_, _, cut_one cs 1 1, K1, ⟨_, _, cut_one cs 2 1, K2, K3⟩⟩⟩, ⟨g0, g1, g2, g3⟩⟩
/-- The law, of plain values. -/
def laws_FnExactRunBallot.Good : Prop := ∀ (l0 : List (S113)) (y1 : S80), (l0.length ≤ maxLen ∧ ∀ x_ ∈ l0, good113 x_) → good80 y1 → ∃ k, laws_FnExactRunBallot.f k l0 y1.f0 y1.f1 y1.f2 y1.f3 = some true
end Go.Proofs.Ytlabpbkeaelecaa.PFnExactRunBallot
