-- Written for this claim by the session's own program (drive.py).
import Derived.Test.YtcihgepinnajjaaDoorPFnExactLogTextx6
import Derived.Test.YtcihgepinnajjaaDoorPFnExactLogTextx0
import Derived.Test.YtcihgepinnajjaaDoorOpen
namespace Go.Proofs.YtcihgepinnajjaaDoor.PFnExactLogText
open Go.RowKit Go.ChangeShapes Go.WideShapes Go.Proofs.YtcihgepinnajjaaDoorW.PrintWords Go.Proofs.YtcihgepinnajjaaDoorW.PrintLast Go.Proofs.YtcihgepinnajjaaDoor.Opens
set_option linter.unusedVariables false
def good92 (x : S92) : Prop := (True) ∧ ((Lit.int .i64 x.f1).wf = true)
theorem opens_S92 : Opens Tryd.prog 92 k92 good92 := by
  intro H enc w fuel cs x h
  obtain ⟨xs, n, _, rfl, hl, hlen, hf⟩ := DataW.trod_struct Tryd.underlying92 h
  obtain ⟨y0, K0, g0⟩ := field_at 0 0 1 _ rfl rfl (by kernel_rfl) hlen hf (show Opens Tryd.prog 4 _ _ from (opens_bool Tryd.underlying4))
  obtain ⟨y1, K1, g1⟩ := field_at 1 1 1 _ rfl rfl (by kernel_rfl) hlen hf (show Opens Tryd.prog 3 _ _ from (opens_int Tryd.underlying3))
  have hl' : cs.length = 2 := hl.trans (by kernel_rfl)
  rw [cut_off cs 1 1 (by omega)] at K1
  exact ⟨⟨y0, y1⟩, ⟨_, _, cut_one cs 0 1, K0, K1⟩, ⟨g0, g1⟩⟩
def good24 (x : S24) : Prop := ((Lit.int .i64 x.f0).wf = true) ∧ (x.f1.length ≤ maxLen ∧ ∀ x_ ∈ x.f1, good92 x_)
theorem opens_S24 : Opens Tryd.prog 24 k24 good24 := by
  intro H enc w fuel cs x h
  obtain ⟨xs, n, _, rfl, hl, hlen, hf⟩ := DataW.trod_struct Tryd.underlying24 h
  obtain ⟨y0, K0, g0⟩ := field_at 0 0 1 _ rfl rfl (by kernel_rfl) hlen hf (show Opens Tryd.prog 3 _ _ from (opens_int Tryd.underlying3))
  obtain ⟨y1, K1, g1⟩ := field_at 1 1 1 _ rfl rfl (by kernel_rfl) hlen hf (show Opens Tryd.prog 22 _ _ from (opens_slice Tryd.underlying22 (by kernel_rfl) opens_S92))
  have hl' : cs.length = 2 := hl.trans (by kernel_rfl)
  rw [cut_off cs 1 1 (by omega)] at K1
  exact ⟨⟨y0, y1⟩, ⟨_, _, cut_one cs 0 1, K0, K1⟩, ⟨g0, g1⟩⟩
def good26 (x : S26) : Prop := ((Lit.int .i64 x.f0).wf = true) ∧ (True) ∧ (good24 x.f2)
theorem opens_S26 : Opens Tryd.prog 26 k26 good26 := by
  intro H enc w fuel cs x h
  obtain ⟨xs, n, _, rfl, hl, hlen, hf⟩ := DataW.trod_struct Tryd.underlying26 h
  obtain ⟨y0, K0, g0⟩ := field_at 0 0 1 _ rfl rfl (by kernel_rfl) hlen hf (show Opens Tryd.prog 3 _ _ from (opens_int Tryd.underlying3))
  obtain ⟨y1, K1, g1⟩ := field_at 1 1 1 _ rfl rfl (by kernel_rfl) hlen hf (show Opens Tryd.prog 4 _ _ from (opens_bool Tryd.underlying4))
  obtain ⟨y2, K2, g2⟩ := field_at 2 2 2 _ rfl rfl (by kernel_rfl) hlen hf (show Opens Tryd.prog 24 _ _ from opens_S24)
  have hl' : cs.length = 4 := hl.trans (by kernel_rfl)
  rw [cut_off cs 2 2 (by omega)] at K2
  exact ⟨⟨y0, y1, y2⟩, ⟨_, _, cut_one cs 0 1, K0, ⟨_, _, cut_one cs 1 1, K1, K2⟩⟩, ⟨g0, g1, g2⟩⟩
/-- The law, of plain values. -/
def laws_FnExactLogText.Good : Prop := ∀ (l0 : List (S26)), (l0.length ≤ maxLen ∧ ∀ x_ ∈ l0, good26 x_) → ∃ k, laws_FnExactLogText.f k l0 = some true
end Go.Proofs.YtcihgepinnajjaaDoor.PFnExactLogText
