/- FnExactFinishCommit: whatever the arguments are, the call returns true and leaves them as they were: no condition. -/
import Derived.Test.YtjefmihaiaimlaaRows
import Derived.Test.YtjefmihaiaimlaaRFnExactFinishCommit
import Derived.Test.YtjefmihaiaimlaaQFnExactFinishCommit
import Derived.Test.YtjefmihaiaimlaaPureFnExactFinishCommit
import Derived.Test.YtjefmihaiaimlaaOpen
import Derived.Test.YtjefmihaiaimlaaFacts
import Derived.WalkKit
import Derived.ProofKit
import Derived.OpenShut
import Derived.ShutString
import Derived.ChangeOld
import Derived.Below
import Derived.SizedLaws
import Derived.Carry
namespace Go.Proofs.Ytjefmihaiaimlaa.fnExactFinishCommit
open Go.ChangeShapes Go.WideShapes Go.ChangeAt Go.RowKit Go.Proofs.Ytjefmihaiaimlaa.Opens Go.Proofs.Ytjefmihaiaimlaa.PFnExactFinishCommit
open Go.ChangeMaps (open_string shut_string)
set_option linter.unusedVariables false
theorem own : ownKnob Try.prog.godebug = none := by kernel_rfl
theorem laidOut : laidOutB Try.prog = true := by kernel_rfl
set_option maxRecDepth 100000 in
theorem lifted (os : Os) (started : os.Started) (H : Type) (enc : TypeId × Value → H) :
    ReturnsInHanded {} Try.checked os 3 .any (Rows.fnExactFinishCommitSpec.pre6 enc Try.prog Try.f3 Rows.fnExactFinishCommitRow.domain false) (Rows.fnExactFinishCommitSpec.post enc Try.prog Try.f3 false true false false) := by
  refine returnsInHanded_of_change_sized (C := Try.checked) own started (by kernel_rfl) Try.func3
    (ChangeSpec.witness6 (enc := enc) (C := Try.checked) false ⟨#[], #[.agg #[.slice none 0 0, .slice none 0 0, .int .i64 0]], []⟩ 8 (by kernel_rfl) (by kernel_rfl) (by kernel_rfl) (by kernel_rfl)) ?_
  intro W base args ds gs before hval0 hW hcnd hsz0 _
  have hval : ∀ (j : Nat) t v, Try.f3.params[j]? = some t → args[j]? = some v → Value.okWide Try.prog W .any base t v := hval0
  have hW' := hW
  obtain ⟨p, q, hA0, hV, rfl, hfz, hnd⟩ := hW
  have hA : DataW.TrodAll enc Try.prog W 0 (fun _ => true) true Try.f3.params.toList args.toList ds p := hA0
  rw [Try.params3] at hA hval
  obtain ⟨v0, vs0, d0, ds0, p0, q0, hargs, rfl, rfl, h0, r0⟩ := trodAll_cons hA
  obtain ⟨rfl, rfl, rfl⟩ := trodAll_nil r0
  obtain rfl : args = #[v0] := by cases args; simp_all
  obtain ⟨rfl, rfl⟩ := trodVars_none hV
  obtain ⟨cs0, rfl, hs0⟩ := okWide_struct Try.underlying24 (hval 0 24 v0 rfl rfl)
  have k0 := h0
  have lt0 : ∀ x ∈ p0, x.block < W.heap.size := by obtain ⟨m, hm⟩ := k0; exact DataW.trod_lt m _ _ _ hm
  obtain ⟨y0, K0, g0⟩ := struct_arg opens_S24 h0
  obtain ⟨A0_0, c0_0, A0_1, c0_1, e0, l0_0, C0_0, l0_1, C0_1⟩ := k24_open K0
  obtain rfl : cs0 = #[.slice A0_0 y0.f0.length c0_0, .slice A0_1 y0.f1.length c0_1, .int .i64 y0.f2] := by rw [← Array.toArray_toList (xs := cs0), e0]
  clear hA0 hval0 hsz0
  obtain ⟨k, h⟩ := Pure.FnExactFinishCommit y0 g0
  refine (laws_FnExactFinishCommit.calls k _ _ y0.f0 _ _ y0.f1 y0.f2 W C0_0 l0_0 C0_1 l0_1 h).mono fun e W' ⟨he, bel0⟩ => ?_
  have bel : Below W.heap.size W W' := bel0
  subst he
  exact ⟨_, rfl, _, _, _, [], _, [], hW', trodAll_mk1 (shut_bool Try.underlying4 _), (trodAll_cons_mk (Below.trod laidOut (by kernel_rfl) (of_decide_eq_true (by kernel_rfl)) k0 bel lt0) trodAll_mk0), rfl, bel.frame _, fun h => by cases h⟩
theorem over : Rows.fnExactFinishCommitRow.holds Try.pinned (OpenSpec.ofChange Rows.fnExactFinishCommitSpec) :=
  OpenClaim.holds_of_wide 3 Try.f3 rfl rfl rfl rfl rfl rfl rfl ⟨rfl, rfl, rfl, rfl, rfl⟩ rfl rfl rfl rfl rfl (by kernel_rfl) Try.func3
    (by show joinedFacts Try.prog 3 Try.f3 Rows.fnExactFinishCommitSpec Rows.fnExactFinishCommitRow = true; unfold joinedFacts; rw [Facts.enter_, Facts.finals_, Facts.make_]; kernel_rfl)
    (of_decide_eq_true (by kernel_rfl)) (by unfold Func.isWrapper; first | (rw [if_pos (by decide +kernel)]; kernel_rfl) | (rw [if_neg (by decide +kernel)]; exact ⟨rfl, rfl⟩))
    (fun os started H enc _ => lifted os started H enc)
theorem proved : Rows.FnExactFinishCommitSaid := over
end Go.Proofs.Ytjefmihaiaimlaa.fnExactFinishCommit
namespace Go.Proofs.Ytjefmihaiaimlaa
/-- The row, under a short name, for the claim. -/
theorem fnExactFinishCommit_holds : Rows.FnExactFinishCommitSaid := fnExactFinishCommit.proved
end Go.Proofs.Ytjefmihaiaimlaa
