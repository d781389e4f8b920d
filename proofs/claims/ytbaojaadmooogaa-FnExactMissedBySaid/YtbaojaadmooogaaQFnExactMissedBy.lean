-- Written for this claim by the session's own program (drive.py).
import Derived.Test.YtbaojaadmooogaaRFnExactMissedBy
import Derived.Test.YtbaojaadmooogaaPFnExactMissedByx0
import Derived.Test.YtbaojaadmooogaaOpen
namespace Go.Proofs.Ytbaojaadmooogaa.PFnExactMissedBy
open Go.RowKit Go.ChangeShapes Go.WideShapes Go.Proofs.YtbaojaadmooogaaW.PrintWords Go.Proofs.YtbaojaadmooogaaW.PrintLast Go.Proofs.Ytbaojaadmooogaa.Opens
set_option linter.unusedVariables false
def good122 (x : S122) : Prop := ((Lit.int .i64 x.f0).wf = true) ∧ (True)
theorem opens_S122 : Opens Try.prog 122 k122 good122 := by
  intro H enc w fuel cs x h
  obtain ⟨xs, n, _, rfl, hl, hlen, hf⟩ := DataW.trod_struct Try.underlying122 h
  obtain ⟨y0, K0, g0⟩ := field_at 0 0 1 _ rfl rfl (by kernel_rfl) hlen hf (show Opens Try.prog 3 _ _ from (opens_int Try.underlying3))
  obtain ⟨y1, K1, g1⟩ := field_at 1 1 1 _ rfl rfl (by kernel_rfl) hlen hf (show Opens Try.prog 4 _ _ from (opens_bool Try.underlying4))
  have hl' : cs.length = 2 := hl.trans (by kernel_rfl)
  rw [cut_off cs 1 1 (by omega)] at K1
  exact ⟨⟨y0, y1⟩, ⟨_, _, cut_one cs 0 1, K0, K1⟩, ⟨g0, g1⟩⟩
def good46 (x : S46) : Prop := ((Lit.int .i64 x.f0).wf = true) ∧ (x.f1.length ≤ maxLen ∧ ∀ x_ ∈ x.f1, good122 x_) ∧ (x.f2.length ≤ maxLen ∧ ∀ x_ ∈ x.f2, x_.length ≤ maxLen ∧ ∀ xx_ ∈ x_, (Lit.int .i64 xx_).wf = true)
theorem opens_S46 : Opens Try.prog 46 k46 good46 := by
  intro H enc w fuel cs x h
  obtain ⟨xs, n, _, rfl, hl, hlen, hf⟩ := DataW.trod_struct Try.underlying46 h
  obtain ⟨y0, K0, g0⟩ := field_at 0 0 1 _ rfl rfl (by kernel_rfl) hlen hf (show Opens Try.prog 3 _ _ from (opens_int Try.underlying3))
  obtain ⟨y1, K1, g1⟩ := field_at 1 1 1 _ rfl rfl (by kernel_rfl) hlen hf (show Opens Try.prog 43 _ _ from (opens_slice Try.underlying43 (by kernel_rfl) opens_S122))
  obtain ⟨y2, K2, g2⟩ := field_at 2 2 1 _ rfl rfl (by kernel_rfl) hlen hf (show Opens Try.prog 44 _ _ from (opens_slice Try.underlying44 (by kernel_rfl) (opens_slice Try.underlying37 (by kernel_rfl) (opens_int Try.underlying3))))
  have hl' : cs.length = 3 := hl.trans (by kernel_rfl)
  rw [cut_off cs 2 1 (by omega)] at K2
  exact ⟨⟨y0, y1, y2⟩, ⟨_, _, cut_one cs 0 1, K0, ⟨_, _, cut_one cs 1 1, K1, K2⟩⟩, ⟨g0, g1, g2⟩⟩
/-- The law, of plain values. -/
def laws_FnExactMissedBy.Good : Prop := ∀ (y0 : S46) (l1 : List (List Int)), good46 y0 → (l1.length ≤ maxLen ∧ ∀ x_ ∈ l1, x_.length ≤ maxLen ∧ ∀ xx_ ∈ x_, (Lit.int .i64 xx_).wf = true) → ∃ k, laws_FnExactMissedBy.Pass k y0.f0 y0.f1 y0.f2 l1
end Go.Proofs.Ytbaojaadmooogaa.PFnExactMissedBy
