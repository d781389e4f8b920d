-- Written for this claim by the session's own program (drive.py).
import Derived.Test.YtcdbjnbdfbiaaaaPFnExactClashOfx2
import Derived.Test.YtcdbjnbdfbiaaaaPFnExactClashOfx0
import Derived.Test.YtcdbjnbdfbiaaaaOpen
namespace Go.Proofs.Ytcdbjnbdfbiaaaa.PFnExactClashOf
open Go.RowKit Go.ChangeShapes Go.WideShapes Go.Proofs.YtcdbjnbdfbiaaaaW.PrintWords Go.Proofs.YtcdbjnbdfbiaaaaW.PrintLast Go.Proofs.Ytcdbjnbdfbiaaaa.Opens
set_option linter.unusedVariables false
def good26 (x : S26) : Prop := ((Lit.int .i64 x.f0).wf = true) ∧ (True)
theorem opens_S26 : Opens Try.prog 26 k26 good26 := by
  intro H enc w fuel cs x h
  obtain ⟨xs, n, _, rfl, hl, hlen, hf⟩ := DataW.trod_struct Try.underlying26 h
  obtain ⟨y0, K0, g0⟩ := field_at 0 0 1 _ rfl rfl (by kernel_rfl) hlen hf (show Opens Try.prog 3 _ _ from (opens_int Try.underlying3))
  obtain ⟨y1, K1, g1⟩ := field_at 1 1 1 _ rfl rfl (by kernel_rfl) hlen hf (show Opens Try.prog 4 _ _ from (opens_bool Try.underlying4))
  have hl' : cs.length = 2 := hl.trans (by kernel_rfl)
  rw [cut_off cs 1 1 (by omega)] at K1
  exact ⟨⟨y0, y1⟩, ⟨_, _, cut_one cs 0 1, K0, K1⟩, ⟨g0, g1⟩⟩
/-- The law, of plain values. -/
def laws_FnExactClashOf.Good : Prop := ∀ (y0 : S26) (y1 : S26), good26 y0 → good26 y1 → laws_FnExactClashOf.f y0.f0 y0.f1 y1.f0 y1.f1 = some true
end Go.Proofs.Ytcdbjnbdfbiaaaa.PFnExactClashOf
