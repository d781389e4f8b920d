-- Written for this claim by the session's own program (drive.py).
import Derived.Test.YtbaojaadmooogaaPFnExactRunPiecesx15
import Derived.Test.YtbaojaadmooogaaPFnExactRunPiecesx0
import Derived.Test.YtbaojaadmooogaaVOpen
namespace Go.Proofs.Ytbaojaadmooogaa.PFnExactRunPieces
open Go.RowKit Go.ChangeShapes Go.WideShapes Go.Proofs.YtbaojaadmooogaaW.PrintWords Go.Proofs.YtbaojaadmooogaaW.PrintLast Go.Proofs.Ytbaojaadmooogaa.Opens
set_option linter.unusedVariables false
def good100 (x : S100) : Prop := ((Lit.int .i64 x.f0).wf = true) ∧ ((Lit.int .i64 x.f1).wf = true) ∧ ((Lit.int .i64 x.f2).wf = true) ∧ ((Lit.int .i64 x.f3).wf = true) ∧ ((Lit.int .i64 x.f4).wf = true)
theorem opens_S100 : Opens Try.prog 100 k100 good100 := by
  intro H enc w fuel cs x h
  obtain ⟨xs, n, _, rfl, hl, hlen, hf⟩ := DataW.trod_struct Try.underlying100 h
  obtain ⟨y0, K0, g0⟩ := field_at 0 0 1 _ rfl rfl (by kernel_rfl) hlen hf (show Opens Try.prog 3 _ _ from (opens_int Try.underlying3))
  obtain ⟨y1, K1, g1⟩ := field_at 1 1 1 _ rfl rfl (by kernel_rfl) hlen hf (show Opens Try.prog 3 _ _ from (opens_int Try.underlying3))
  obtain ⟨y2, K2, g2⟩ := field_at 2 2 1 _ rfl rfl (by kernel_rfl) hlen hf (show Opens Try.prog 3 _ _ from (opens_int Try.underlying3))
  obtain ⟨y3, K3, g3⟩ := field_at 3 3 1 _ rfl rfl (by kernel_rfl) hlen hf (show Opens Try.prog 3 _ _ from (opens_int Try.underlying3))
  obtain ⟨y4, K4, g4⟩ := field_at 4 4 1 _ rfl rfl (by kernel_rfl) hlen hf (show Opens Try.prog 3 _ _ from (opens_int Try.underlying3))
  have hl' : cs.length = 5 := hl.trans (by kernel_rfl)
  rw [cut_off cs 4 1 (by omega)] at K4
  exact ⟨⟨y0, y1, y2, y3, y4⟩, ⟨_, _, cut_one cs 0 1, K0, ⟨_, _, cut_one cs 1 1, K1, ⟨_, _, cut_one cs 2 1, K2, ⟨_, _, cut_one cs 3 1, K3, K4⟩⟩⟩⟩, ⟨g0, g1, g2, g3, g4⟩⟩
/-- The law, of plain values. -/
def laws_FnExactRunPieces.Good : Prop := ∀ (l0 : List Int) (l1 : List (S100)) (l2 : List Int), (l0.length ≤ maxLen ∧ ∀ x_ ∈ l0, (Lit.int .i64 x_).wf = true) → (l1.length ≤ maxLen ∧ ∀ x_ ∈ l1, good100 x_) → (l2.length ≤ maxLen ∧ ∀ x_ ∈ l2, (Lit.int .i64 x_).wf = true) → ∃ k, laws_FnExactRunPieces.f k l0 l1 l2 = some true
end Go.Proofs.Ytbaojaadmooogaa.PFnExactRunPieces
