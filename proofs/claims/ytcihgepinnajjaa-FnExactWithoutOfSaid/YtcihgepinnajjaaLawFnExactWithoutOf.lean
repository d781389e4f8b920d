/- FnExactWithoutOf: whatever the arguments are, the call returns true and leaves them as they were: no condition. -/
import Derived.Test.YtcihgepinnajjaaRows
import Derived.Test.YtcihgepinnajjaaRFnExactWithoutOf
import Derived.Test.YtcihgepinnajjaaQFnExactWithoutOf
import Derived.Test.YtcihgepinnajjaaPureFnExactWithoutOf
import Derived.Test.YtcihgepinnajjaaVOpen
import Derived.Test.YtcihgepinnajjaaFacts
import Derived.WalkKit
import Derived.ProofKit
import Derived.OpenShut
import Derived.ShutString
import Derived.ChangeOld
import Derived.Below
import Derived.SizedLaws
import Derived.Carry
namespace Go.Proofs.Ytcihgepinnajjaa.fnExactWithoutOf
open Go.ChangeShapes Go.WideShapes Go.ChangeAt Go.RowKit Go.Proofs.Ytcihgepinnajjaa.Opens Go.Proofs.Ytcihgepinnajjaa.PFnExactWithoutOf
open Go.ChangeMaps (open_string shut_string)
set_option linter.unusedVariables false
theorem own : ownKnob Try.prog.godebug = none := by kernel_rfl
theorem laidOut : laidOutB Try.prog = true := by kernel_rfl
set_option maxRecDepth 100000 in
theorem lifted (os : Os) (started : os.Started) (H : Type) (enc : TypeId × Value → H) :
    ReturnsInHanded {} Try.checked os 6 .any (Rows.fnExactWithoutOfSpec.pre6 enc Try.prog Try.f6 Rows.fnExactWithoutOfRow.domain false) (Rows.fnExactWithoutOfSpec.post enc Try.prog Try.f6 false true false false) := by
  refine returnsInHanded_of_change_sized (C := Try.checked) own started (by kernel_rfl) Try.func6
    (ChangeSpec.witness6 (enc := enc) (C := Try.checked) false ⟨#[], #[.agg #[.slice none 0 0, .slice none 0 0], .agg #[.slice none 0 0, .slice none 0 0]], []⟩ 8 (by kernel_rfl) (by kernel_rfl) (by kernel_rfl) (by kernel_rfl)) ?_
  intro W base args ds gs before hval0 hW hcnd hsz0 _
  have hval : ∀ (j : Nat) t v, Try.f6.params[j]? = some t → args[j]? = some v → Value.okWide Try.prog W .any base t v := hval0
  have hW' := hW
  obtain ⟨p, q, hA0, hV, rfl, hfz, hnd⟩ := hW
  have hA : DataW.TrodAll enc Try.prog W 0 (fun _ => true) true Try.f6.params.toList args.toList ds p := hA0
  rw [Try.params6] at hA hval
  obtain ⟨v0, vs0, d0, ds0, p0, q0, hargs, rfl, rfl, h0, r0⟩ := trodAll_cons hA
  obtain ⟨v1, vs1, d1, ds1, p1, q1, rfl, rfl, rfl, h1, r1⟩ := trodAll_cons r0
  obtain ⟨rfl, rfl, rfl⟩ := trodAll_nil r1
  obtain rfl : args = #[v0, v1] := by cases args; simp_all
  obtain ⟨rfl, rfl⟩ := trodVars_none hV
  obtain ⟨cs0, rfl, hs0⟩ := okWide_struct Try.underlying42 (hval 0 42 v0 rfl rfl)
  have k0 := h0
  have lt0 : ∀ x ∈ p0, x.block < W.heap.size := by obtain ⟨m, hm⟩ := k0; exact DataW.trod_lt m _ _ _ hm
  obtain ⟨y0, K0, g0⟩ := struct_arg opens_S42 h0
  obtain ⟨A0_0, c0_0, A0_1, c0_1, e0, l0_0, C0_0, l0_1, C0_1⟩ := k42_open K0
  obtain rfl : cs0 = #[.slice A0_0 y0.f0.length c0_0, .slice A0_1 y0.f1.length c0_1] := by rw [← Array.toArray_toList (xs := cs0), e0]
  obtain ⟨cs1, rfl, hs1⟩ := okWide_struct Try.underlying42 (hval 1 42 v1 rfl rfl)
  have k1 := h1
  have lt1 : ∀ x ∈ p1, x.block < W.heap.size := by obtain ⟨m, hm⟩ := k1; exact DataW.trod_lt m _ _ _ hm
  obtain ⟨y1, K1, g1⟩ := struct_arg opens_S42 h1
  obtain ⟨A1_0, c1_0, A1_1, c1_1, e1, l1_0, C1_0, l1_1, C1_1⟩ := k42_open K1
  obtain rfl : cs1 = #[.slice A1_0 y1.f0.length c1_0, .slice A1_1 y1.f1.length c1_1] := by rw [← Array.toArray_toList (xs := cs1), e1]
  clear hA0 hval0 hsz0
  obtain ⟨k, h⟩ := Pure.FnExactWithoutOf y0 y1 g0 g1
  refine (laws_FnExactWithoutOf.calls k _ _ y0.f0 _ _ y0.f1 _ _ y1.f0 _ _ y1.f1 W C0_0 l0_0 C0_1 l0_1 C1_0 l1_0 C1_1 l1_1 h).mono fun e W' ⟨he, bel0⟩ => ?_
  have bel : Below W.heap.size W W' := bel0
  subst he
  exact ⟨_, rfl, _, _, _, [], _, [], hW', trodAll_mk1 (shut_bool Try.underlying4 _), (trodAll_cons_mk (Below.trod laidOut (by kernel_rfl) (of_decide_eq_true (by kernel_rfl)) k0 bel lt0) (trodAll_cons_mk (Below.trod laidOut (by kernel_rfl) (of_decide_eq_true (by kernel_rfl)) k1 bel lt1) trodAll_mk0)), rfl, bel.frame _, fun h => by cases h⟩
theorem over : Rows.fnExactWithoutOfRow.holds Try.pinned (OpenSpec.ofChange Rows.fnExactWithoutOfSpec) :=
  OpenClaim.holds_of_wide 6 Try.f6 rfl rfl rfl rfl rfl rfl rfl ⟨rfl, rfl, rfl, rfl, rfl⟩ rfl rfl rfl rfl rfl (by kernel_rfl) Try.func6
    (by show joinedFacts Try.prog 6 Try.f6 Rows.fnExactWithoutOfSpec Rows.fnExactWithoutOfRow = true; unfold joinedFacts; rw [Facts.enter_, Facts.finals_, Facts.make_]; kernel_rfl)
    (of_decide_eq_true (by kernel_rfl)) (by unfold Func.isWrapper; first | (rw [if_pos (by decide +kernel)]; kernel_rfl) | (rw [if_neg (by decide +kernel)]; exact ⟨rfl, rfl⟩))
    (fun os started H enc _ => lifted os started H enc)
theorem proved : Rows.FnExactWithoutOfSaid := over
end Go.Proofs.Ytcihgepinnajjaa.fnExactWithoutOf
namespace Go.Proofs.Ytcihgepinnajjaa
/-- The row, under a short name, for the claim. -/
theorem fnExactWithoutOf_holds : Rows.FnExactWithoutOfSaid := fnExactWithoutOf.proved
end Go.Proofs.Ytcihgepinnajjaa
