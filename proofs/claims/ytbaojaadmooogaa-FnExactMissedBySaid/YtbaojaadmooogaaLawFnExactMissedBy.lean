/- FnExactMissedBy: whatever the arguments are, the call returns true and leaves them as they were: no condition. -/
import Derived.Test.YtbaojaadmooogaaRows
import Derived.Test.YtbaojaadmooogaaRFnExactMissedBy
import Derived.Test.YtbaojaadmooogaaQFnExactMissedBy
import Derived.Test.YtbaojaadmooogaaPureFnExactMissedBy
import Derived.Test.YtbaojaadmooogaaOpen
import Derived.Test.YtbaojaadmooogaaFacts
import Derived.WalkKit
import Derived.ProofKit
import Derived.OpenShut
import Derived.ShutString
import Derived.ChangeOld
import Derived.Below
import Derived.SizedLaws
import Derived.Carry
namespace Go.Proofs.Ytbaojaadmooogaa.fnExactMissedBy
open Go.ChangeShapes Go.WideShapes Go.ChangeAt Go.RowKit Go.Proofs.Ytbaojaadmooogaa.Opens Go.Proofs.Ytbaojaadmooogaa.PFnExactMissedBy
open Go.ChangeMaps (open_string shut_string)
set_option linter.unusedVariables false
theorem own : ownKnob Try.prog.godebug = none := by kernel_rfl
theorem laidOut : laidOutB Try.prog = true := by kernel_rfl
set_option maxRecDepth 100000 in
theorem lifted (os : Os) (started : os.Started) (H : Type) (enc : TypeId × Value → H) :
    ReturnsInHanded {} Try.checked os 7 .any (Rows.fnExactMissedBySpec.pre6 enc Try.prog Try.f7 Rows.fnExactMissedByRow.domain false) (Rows.fnExactMissedBySpec.post enc Try.prog Try.f7 false true false false) := by
  refine returnsInHanded_of_change_sized (C := Try.checked) own started (by kernel_rfl) Try.func7
    (ChangeSpec.witness6 (enc := enc) (C := Try.checked) false ⟨#[], #[.agg #[.int .i64 0, .slice none 0 0, .slice none 0 0], .slice none 0 0], []⟩ 8 (by kernel_rfl) (by kernel_rfl) (by kernel_rfl) (by kernel_rfl)) ?_
  intro W base args ds gs before hval0 hW hcnd hsz0 _
  have hval : ∀ (j : Nat) t v, Try.f7.params[j]? = some t → args[j]? = some v → Value.okWide Try.prog W .any base t v := hval0
  have hW' := hW
  obtain ⟨p, q, hA0, hV, rfl, hfz, hnd⟩ := hW
  have hA : DataW.TrodAll enc Try.prog W 0 (fun _ => true) true Try.f7.params.toList args.toList ds p := hA0
  rw [Try.params7] at hA hval
  obtain ⟨v0, vs0, d0, ds0, p0, q0, hargs, rfl, rfl, h0, r0⟩ := trodAll_cons hA
  obtain ⟨v1, vs1, d1, ds1, p1, q1, rfl, rfl, rfl, h1, r1⟩ := trodAll_cons r0
  obtain ⟨rfl, rfl, rfl⟩ := trodAll_nil r1
  obtain rfl : args = #[v0, v1] := by cases args; simp_all
  obtain ⟨rfl, rfl⟩ := trodVars_none hV
  obtain ⟨cs0, rfl, hs0⟩ := okWide_struct Try.underlying46 (hval 0 46 v0 rfl rfl)
  have k0 := h0
  have lt0 : ∀ x ∈ p0, x.block < W.heap.size := by obtain ⟨m, hm⟩ := k0; exact DataW.trod_lt m _ _ _ hm
  obtain ⟨y0, K0, g0⟩ := struct_arg opens_S46 h0
  obtain ⟨A0_1, c0_1, A0_2, c0_2, e0, l0_1, C0_1, l0_2, C0_2⟩ := k46_open K0
  obtain rfl : cs0 = #[.int .i64 y0.f0, .slice A0_1 y0.f1.length c0_1, .slice A0_2 y0.f2.length c0_2] := by rw [← Array.toArray_toList (xs := cs0), e0]
  obtain ⟨a1, len1, cap1, rfl⟩ := okWide_slice Try.underlying44 (hval 1 44 v1 rfl rfl)
  have k1 := h1
  have lt1 : ∀ x ∈ p1, x.block < W.heap.size := by obtain ⟨m, hm⟩ := k1; exact DataW.trod_lt m _ _ _ hm
  obtain ⟨l1, rfl, C1, c1, m1, g1⟩ := slice_arg Try.underlying44 (by kernel_rfl) (opens_slice Try.underlying37 (by kernel_rfl) (opens_int Try.underlying3)) h1
  clear hA0 hval0 hsz0
  obtain ⟨k, h⟩ := Pure.FnExactMissedBy y0 l1 g0 ⟨m1, g1⟩
  refine (laws_FnExactMissedBy.calls k y0.f0 _ _ y0.f1 _ _ y0.f2 _ _ l1 W C0_1 l0_1 C0_2 l0_2 C1 c1 h).mono fun e W' ⟨he, bel0⟩ => ?_
  have bel : Below W.heap.size W W' := bel0
  subst he
  exact ⟨_, rfl, _, _, _, [], _, [], hW', trodAll_mk1 (shut_bool Try.underlying4 _), (trodAll_cons_mk (Below.trod laidOut (by kernel_rfl) (of_decide_eq_true (by kernel_rfl)) k0 bel lt0) (trodAll_cons_mk (Below.trod laidOut (by kernel_rfl) (of_decide_eq_true (by kernel_rfl)) k1 bel lt1) trodAll_mk0)), rfl, bel.frame _, fun h => by cases h⟩
theorem over : Rows.fnExactMissedByRow.holds Try.pinned (OpenSpec.ofChange Rows.fnExactMissedBySpec) :=
  OpenClaim.holds_of_wide 7 Try.f7 rfl rfl rfl rfl rfl rfl rfl ⟨rfl, rfl, rfl, rfl, rfl⟩ rfl rfl rfl rfl rfl (by kernel_rfl) Try.func7
    (by show joinedFacts Try.prog 7 Try.f7 Rows.fnExactMissedBySpec Rows.fnExactMissedByRow = true; unfold joinedFacts; rw [Facts.enter_, Facts.finals_, Facts.make_]; kernel_rfl)
    (of_decide_eq_true (by kernel_rfl)) (by unfold Func.isWrapper; first | (rw [if_pos (by decide +kernel)]; kernel_rfl) | (rw [if_neg (by decide +kernel)]; exact ⟨rfl, rfl⟩))
    (fun os started H enc _ => lifted os started H enc)
theorem proved : Rows.FnExactMissedBySaid := over
end Go.Proofs.Ytbaojaadmooogaa.fnExactMissedBy
namespace Go.Proofs.Ytbaojaadmooogaa
/-- The row, under a short name, for the claim. -/
theorem fnExactMissedBy_holds : Rows.FnExactMissedBySaid := fnExactMissedBy.proved
end Go.Proofs.Ytbaojaadmooogaa
