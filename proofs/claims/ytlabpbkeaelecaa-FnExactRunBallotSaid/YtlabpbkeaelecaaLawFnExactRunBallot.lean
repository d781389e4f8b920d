/- FnExactRunBallot: whatever the arguments are, the call returns true and leaves them as they were: no condition. -/
import Derived.Test.YtlabpbkeaelecaaRows
import Derived.Test.YtlabpbkeaelecaaPFnExactRunBallotx7
import Derived.Test.YtlabpbkeaelecaaQFnExactRunBallot
import Derived.Test.YtlabpbkeaelecaaPureFnExactRunBallot
import Derived.Test.YtlabpbkeaelecaaOpen
import Derived.Test.YtlabpbkeaelecaaFacts
import Derived.WalkKit
import Derived.ProofKit
import Derived.OpenShut
import Derived.ShutString
import Derived.ChangeOld
import Derived.Below
import Derived.SizedLaws
import Derived.Carry
namespace Go.Proofs.Ytlabpbkeaelecaa.fnExactRunBallot
open Go.ChangeShapes Go.WideShapes Go.ChangeAt Go.RowKit Go.Proofs.Ytlabpbkeaelecaa.Opens Go.Proofs.Ytlabpbkeaelecaa.PFnExactRunBallot
open Go.ChangeMaps (open_string shut_string)
set_option linter.unusedVariables false
theorem own : ownKnob Try.prog.godebug = none := by kernel_rfl
theorem laidOut : laidOutB Try.prog = true := by kernel_rfl
set_option maxRecDepth 100000 in
theorem lifted (os : Os) (started : os.Started) (H : Type) (enc : TypeId × Value → H) :
    ReturnsInHanded {} Try.checked os 15 .any (Rows.fnExactRunBallotSpec.pre6 enc Try.prog Try.f15 Rows.fnExactRunBallotRow.domain false) (Rows.fnExactRunBallotSpec.post enc Try.prog Try.f15 false true false false) := by
  refine returnsInHanded_of_change_sized (C := Try.checked) own started (by kernel_rfl) Try.func15
    (ChangeSpec.witness6 (enc := enc) (C := Try.checked) false ⟨#[], #[.slice none 0 0, .agg #[.int .i64 0, .int .i64 0, .slice none 0 0, .slice none 0 0]], []⟩ 8 (by kernel_rfl) (by kernel_rfl) (by kernel_rfl) (by kernel_rfl)) ?_
  intro W base args ds gs before hval0 hW hcnd hsz0 _
  have hval : ∀ (j : Nat) t v, Try.f15.params[j]? = some t → args[j]? = some v → Value.okWide Try.prog W .any base t v := hval0
  have hW' := hW
  obtain ⟨p, q, hA0, hV, rfl, hfz, hnd⟩ := hW
  have hA : DataW.TrodAll enc Try.prog W 0 (fun _ => true) true Try.f15.params.toList args.toList ds p := hA0
  rw [Try.params15] at hA hval
  obtain ⟨v0, vs0, d0, ds0, p0, q0, hargs, rfl, rfl, h0, r0⟩ := trodAll_cons hA
  obtain ⟨v1, vs1, d1, ds1, p1, q1, rfl, rfl, rfl, h1, r1⟩ := trodAll_cons r0
  obtain ⟨rfl, rfl, rfl⟩ := trodAll_nil r1
  obtain rfl : args = #[v0, v1] := by cases args; simp_all
  obtain ⟨rfl, rfl⟩ := trodVars_none hV
  obtain ⟨a0, len0, cap0, rfl⟩ := okWide_slice Try.underlying35 (hval 0 35 v0 rfl rfl)
  have k0 := h0
  have lt0 : ∀ x ∈ p0, x.block < W.heap.size := by obtain ⟨m, hm⟩ := k0; exact DataW.trod_lt m _ _ _ hm
  obtain ⟨l0, rfl, C0, c0, m0, g0⟩ := slice_arg Try.underlying35 (by kernel_rfl) opens_S113 h0
  obtain ⟨cs1, rfl, hs1⟩ := okWide_struct Try.underlying80 (hval 1 80 v1 rfl rfl)
  have k1 := h1
  have lt1 : ∀ x ∈ p1, x.block < W.heap.size := by obtain ⟨m, hm⟩ := k1; exact DataW.trod_lt m _ _ _ hm
  obtain ⟨y1, K1, g1⟩ := struct_arg opens_S80 h1
  obtain ⟨A1_2, c1_2, A1_3, c1_3, e1, l1_2, C1_2, l1_3, C1_3⟩ := k80_open K1
  obtain rfl : cs1 = #[.int .i64 y1.f0, .int .i64 y1.f1, .slice A1_2 y1.f2.length c1_2, .slice A1_3 y1.f3.length c1_3] := by rw [← Array.toArray_toList (xs := cs1), e1]
  clear hA0 hval0 hsz0
  obtain ⟨k, h⟩ := Pure.FnExactRunBallot l0 y1 ⟨m0, g0⟩ g1
  refine (laws_FnExactRunBallot.calls k _ _ l0 y1.f0 y1.f1 _ _ y1.f2 _ _ y1.f3 true W C0 c0 C1_2 l1_2 C1_3 l1_3 h).mono fun e W' ⟨he, bel0⟩ => ?_
  have bel : Below W.heap.size W W' := bel0
  subst he
  exact ⟨_, rfl, _, _, _, [], _, [], hW', trodAll_mk1 (shut_bool Try.underlying4 _), (trodAll_cons_mk (Below.trod laidOut (by kernel_rfl) (of_decide_eq_true (by kernel_rfl)) k0 bel lt0) (trodAll_cons_mk (Below.trod laidOut (by kernel_rfl) (of_decide_eq_true (by kernel_rfl)) k1 bel lt1) trodAll_mk0)), rfl, bel.frame _, fun h => by cases h⟩
theorem over : Rows.fnExactRunBallotRow.holds Try.pinned (OpenSpec.ofChange Rows.fnExactRunBallotSpec) :=
  OpenClaim.holds_of_wide 15 Try.f15 rfl rfl rfl rfl rfl rfl rfl ⟨rfl, rfl, rfl, rfl, rfl⟩ rfl rfl rfl rfl rfl (by kernel_rfl) Try.func15
    (by show joinedFacts Try.prog 15 Try.f15 Rows.fnExactRunBallotSpec Rows.fnExactRunBallotRow = true; unfold joinedFacts; rw [Facts.enter_, Facts.finals_, Facts.make_]; kernel_rfl)
    (of_decide_eq_true (by kernel_rfl)) (by unfold Func.isWrapper; first | (rw [if_pos (by decide +kernel)]; kernel_rfl) | (rw [if_neg (by decide +kernel)]; exact ⟨rfl, rfl⟩))
    (fun os started H enc _ => lifted os started H enc)
theorem proved : Rows.FnExactRunBallotSaid := over
end Go.Proofs.Ytlabpbkeaelecaa.fnExactRunBallot
namespace Go.Proofs.Ytlabpbkeaelecaa
/-- The row, under a short name, for the claim. -/
theorem fnExactRunBallot_holds : Rows.FnExactRunBallotSaid := fnExactRunBallot.proved
end Go.Proofs.Ytlabpbkeaelecaa
