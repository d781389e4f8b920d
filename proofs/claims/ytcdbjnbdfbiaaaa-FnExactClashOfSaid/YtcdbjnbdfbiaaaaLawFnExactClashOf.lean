/- FnExactClashOf: whatever the arguments are, the call returns true and leaves them as they were: no condition. -/
import Derived.Test.YtcdbjnbdfbiaaaaRows
import Derived.Test.YtcdbjnbdfbiaaaaPFnExactClashOfx2
import Derived.Test.YtcdbjnbdfbiaaaaQFnExactClashOf
import Derived.Test.YtcdbjnbdfbiaaaaPureFnExactClashOf
import Derived.Test.YtcdbjnbdfbiaaaaOpen
import Derived.WalkKit
import Derived.ProofKit
import Derived.OpenShut
import Derived.ShutString
import Derived.ChangeOld
import Derived.Below
import Derived.SizedLaws
import Derived.Carry
namespace Go.Proofs.Ytcdbjnbdfbiaaaa.fnExactClashOf
open Go.ChangeShapes Go.WideShapes Go.ChangeAt Go.RowKit Go.Proofs.Ytcdbjnbdfbiaaaa.Opens Go.Proofs.Ytcdbjnbdfbiaaaa.PFnExactClashOf
open Go.ChangeMaps (open_string shut_string)
set_option linter.unusedVariables false
theorem own : ownKnob Try.prog.godebug = none := by kernel_rfl
theorem laidOut : laidOutB Try.prog = true := by kernel_rfl
set_option maxRecDepth 100000 in
theorem lifted (os : Os) (started : os.Started) (H : Type) (enc : TypeId × Value → H) :
    ReturnsInHanded {} Try.checked os 5 .any (Rows.fnExactClashOfSpec.pre6 enc Try.prog Try.f5 Rows.fnExactClashOfRow.domain false) (Rows.fnExactClashOfSpec.post enc Try.prog Try.f5 false true false false) := by
  refine returnsInHanded_of_change_sized (C := Try.checked) own started (by kernel_rfl) Try.func5
    (ChangeSpec.witness6 (enc := enc) (C := Try.checked) false ⟨#[], #[.agg #[.int .i64 0, .bool false], .agg #[.int .i64 0, .bool false]], []⟩ 8 (by kernel_rfl) (by kernel_rfl) (by kernel_rfl) (by kernel_rfl)) ?_
  intro W base args ds gs before hval0 hW hcnd hsz0 _
  have hval : ∀ (j : Nat) t v, Try.f5.params[j]? = some t → args[j]? = some v → Value.okWide Try.prog W .any base t v := hval0
  have hW' := hW
  obtain ⟨p, q, hA0, hV, rfl, hfz, hnd⟩ := hW
  have hA : DataW.TrodAll enc Try.prog W 0 (fun _ => true) true Try.f5.params.toList args.toList ds p := hA0
  rw [Try.params5] at hA hval
  obtain ⟨v0, vs0, d0, ds0, p0, q0, hargs, rfl, rfl, h0, r0⟩ := trodAll_cons hA
  obtain ⟨v1, vs1, d1, ds1, p1, q1, rfl, rfl, rfl, h1, r1⟩ := trodAll_cons r0
  obtain ⟨rfl, rfl, rfl⟩ := trodAll_nil r1
  obtain rfl : args = #[v0, v1] := by cases args; simp_all
  obtain ⟨rfl, rfl⟩ := trodVars_none hV
  obtain ⟨cs0, rfl, hs0⟩ := okWide_struct Try.underlying26 (hval 0 26 v0 rfl rfl)
  have k0 := h0
  have lt0 : ∀ x ∈ p0, x.block < W.heap.size := by obtain ⟨m, hm⟩ := k0; exact DataW.trod_lt m _ _ _ hm
  obtain ⟨y0, K0, g0⟩ := struct_arg opens_S26 h0
  have e0 := k26_open K0
  obtain rfl : cs0 = #[.int .i64 y0.f0, .bool y0.f1] := by rw [← Array.toArray_toList (xs := cs0), e0]
  obtain ⟨cs1, rfl, hs1⟩ := okWide_struct Try.underlying26 (hval 1 26 v1 rfl rfl)
  have k1 := h1
  have lt1 : ∀ x ∈ p1, x.block < W.heap.size := by obtain ⟨m, hm⟩ := k1; exact DataW.trod_lt m _ _ _ hm
  obtain ⟨y1, K1, g1⟩ := struct_arg opens_S26 h1
  have e1 := k26_open K1
  obtain rfl : cs1 = #[.int .i64 y1.f0, .bool y1.f1] := by rw [← Array.toArray_toList (xs := cs1), e1]
  clear hA0 hval0 hsz0
  have h := Pure.FnExactClashOf y0 y1 g0 g1
  refine (laws_FnExactClashOf.calls y0.f0 y0.f1 y1.f0 y1.f1 true W  h).mono fun e W' ⟨he, bel0⟩ => ?_
  have bel : Below W.heap.size W W' := bel0
  subst he
  exact ⟨_, rfl, _, _, _, [], _, [], hW', trodAll_mk1 (shut_bool Try.underlying4 _), (trodAll_cons_mk (Below.trod laidOut (by kernel_rfl) (of_decide_eq_true (by kernel_rfl)) k0 bel lt0) (trodAll_cons_mk (Below.trod laidOut (by kernel_rfl) (of_decide_eq_true (by kernel_rfl)) k1 bel lt1) trodAll_mk0)), rfl, bel.frame _, fun h => by cases h⟩
theorem over : Rows.fnExactClashOfRow.holds Try.pinned (OpenSpec.ofChange Rows.fnExactClashOfSpec) :=
  OpenClaim.holds_of_wide 5 Try.f5 rfl rfl rfl rfl rfl rfl rfl ⟨rfl, rfl, rfl, rfl, rfl⟩ rfl rfl rfl rfl rfl (by kernel_rfl) Try.func5 (by kernel_rfl)
    (of_decide_eq_true (by kernel_rfl)) (by unfold Func.isWrapper; first | (rw [if_pos (by decide +kernel)]; kernel_rfl) | (rw [if_neg (by decide +kernel)]; exact ⟨rfl, rfl⟩))
    (fun os started H enc _ => lifted os started H enc)
theorem proved : Rows.FnExactClashOfSaid := over
end Go.Proofs.Ytcdbjnbdfbiaaaa.fnExactClashOf
namespace Go.Proofs.Ytcdbjnbdfbiaaaa
/-- The row, under a short name, for the claim. -/
theorem fnExactClashOf_holds : Rows.FnExactClashOfSaid := fnExactClashOf.proved
end Go.Proofs.Ytcdbjnbdfbiaaaa
