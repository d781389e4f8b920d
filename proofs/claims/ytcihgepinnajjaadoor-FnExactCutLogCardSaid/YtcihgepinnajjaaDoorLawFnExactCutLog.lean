/- FnExactCutLog: whatever the arguments are, the call returns true and leaves them as they were: no condition. -/
import Derived.Test.YtcihgepinnajjaaDoorRows
import Derived.Test.YtcihgepinnajjaaDoorRFnExactCutLog
import Derived.Test.YtcihgepinnajjaaDoorQFnExactCutLog
import Derived.Test.YtcihgepinnajjaaDoorPureFnExactCutLog
import Derived.Test.YtcihgepinnajjaaDoorVOpen
import Derived.Test.YtcihgepinnajjaaDoorFacts
import Derived.WalkKit
import Derived.ProofKit
import Derived.OpenShut
import Derived.ShutString
import Derived.ChangeOld
import Derived.Below
import Derived.SizedLaws
import Derived.Carry
import Derived.Test.YtcihgepinnajjaaDoorCards
import Derived.Test.YtcihgepinnajjaaDoorTie
import Derived.Deep.DeepHandedRow
import Derived.Lay
import Derived.LaidSub
import Derived.MakeChecks
import Derived.Stop.LaidErr
import Derived.LaidLaws
namespace Go.Proofs.YtcihgepinnajjaaDoor.fnExactCutLog
open Go.ChangeShapes Go.WideShapes Go.ChangeAt Go.RowKit Go.Proofs.YtcihgepinnajjaaDoor.Opens Go.Proofs.YtcihgepinnajjaaDoor.PFnExactCutLog
open Go.ChangeMaps (open_string shut_string)
set_option linter.unusedVariables false
theorem own : ownKnob Tryd.prog.godebug = none := by kernel_rfl
theorem laidOut : laidOutB Tryd.prog = true := by kernel_rfl
/-- What the row lists gives the table of powers of ten. -/
theorem tab {W : World} (h : laidMetH Tryd.prog Rows.fnExactCutLogRow.laid W) : TabsT W := by
  have h2 := h.filter (fun x => x.1 == "internal/strconv.uint64pow10")
  have e : (Rows.fnExactCutLogRow.laid.filter fun x => x.1 == "internal/strconv.uint64pow10") = [("internal/strconv.uint64pow10", Lib.tabData .u64 Lib.pow10Tab)] := by kernel_rfl
  rw [e, MakeChecks.laidMetH_plain _ _ _ (by kernel_rfl)] at h2
  obtain ⟨g, hg⟩ : ∃ g, Tryd.prog.globalNamed "internal/strconv.uint64pow10" = some g := Option.isSome_iff_exists.1 (by kernel_rfl)
  exact Lib.tabIs_of_head (rest := []) hg (t := 123) (e := 106) (n := 20) (by obtain rfl : g = 1 := Option.some.inj (hg.symm.trans (by kernel_rfl)); kernel_rfl) Tryd.underlying123 Tryd.underlying106 (by kernel_rfl) (by kernel_rfl) h2
/-- What the row lists gives two errors. -/
theorem errs {W : World} (h : laidMetH Tryd.prog Rows.fnExactCutLogRow.laid W) : (∃ t p, W.cell? ⟨2, 0, none⟩ = some (.iface t p)) ∧ ∃ t p, W.cell? ⟨3, 0, none⟩ = some (.iface t p) := by
  have h1 := h.filter (fun x => x.1 == "strconv.ErrSyntax")
  have e1 : (Rows.fnExactCutLogRow.laid.filter fun x => x.1 == "strconv.ErrSyntax") = [("strconv.ErrSyntax", Rows.laid_strconv_ErrSyntax)] := by kernel_rfl
  rw [e1, MakeChecks.laidMetH_plain _ _ _ (by kernel_rfl)] at h1
  have g1 : Tryd.prog.globalNamed "strconv.ErrSyntax" = some 2 := by kernel_rfl
  obtain ⟨a1, _, v1, _, _, _⟩ := laid_sentinel (r := []) (ti := 63) (tp := 138) (te := 140) (ts := 9) h1 g1 (by kernel_rfl) Tryd.underlying63 (fun u hu => typeName_ptr_named (nm := "errors.errorString") (by kernel_rfl) (by kernel_rfl) (by decide) u (hu.trans (by kernel_rfl))) Tryd.underlying138 Tryd.underlying140 rfl rfl Tryd.underlying9 (by kernel_rfl) (by kernel_rfl)
  have h2 := h.filter (fun x => x.1 == "strconv.ErrRange")
  have e2 : (Rows.fnExactCutLogRow.laid.filter fun x => x.1 == "strconv.ErrRange") = [("strconv.ErrRange", Rows.laid_strconv_ErrRange)] := by kernel_rfl
  rw [e2, MakeChecks.laidMetH_plain _ _ _ (by kernel_rfl)] at h2
  have g2 : Tryd.prog.globalNamed "strconv.ErrRange" = some 3 := by kernel_rfl
  obtain ⟨a2, _, v2, _, _, _⟩ := laid_sentinel (r := []) (ti := 63) (tp := 138) (te := 140) (ts := 9) h2 g2 (by kernel_rfl) Tryd.underlying63 (fun u hu => typeName_ptr_named (nm := "errors.errorString") (by kernel_rfl) (by kernel_rfl) (by decide) u (hu.trans (by kernel_rfl))) Tryd.underlying138 Tryd.underlying140 rfl rfl Tryd.underlying9 (by kernel_rfl) (by kernel_rfl)
  exact ⟨⟨_, _, by simpa using World.var?_cell g1 v1 0⟩, ⟨_, _, by simpa using World.var?_cell g2 v2 0⟩⟩
theorem tabs {W : World} (h : laidMetH Tryd.prog Rows.fnExactCutLogRow.laid W) (hS : W.ShapedOpen Tryd.prog) : Tabs W :=
  ⟨tab h, Tryd.laysM145.s1_3 W hS, (errs h).1, (errs h).2⟩
theorem laid_met (os : Os) : laidMetH Tryd.prog Rows.fnExactCutLogRow.laid ((World.laidAll Tryd.prog os Rows.fnExactCutLogRow.laid).forCall (fun _ _ => 0) ⟨#[], #[.string ByteArray.empty, .int .i64 0], []⟩).memory := by
  rw [MakeChecks.laidMetH_plain _ _ _ (by kernel_rfl)]
  exact laidMet_laidAll _ (by kernel_rfl) (by kernel_rfl)
theorem reads (os : Os) {H : Type} (enc : TypeId × Value → H) : ∃ places, DataW.whole enc Tryd.prog ((World.laidAll Tryd.prog os Rows.fnExactCutLogRow.laid).forCall (fun _ _ => 0) ⟨#[], #[.string ByteArray.empty, .int .i64 0], []⟩).memory Tryd.f6.params.toList Rows.fnExactCutLogSpec.vars false (#[.string ByteArray.empty, .int .i64 0] : Array Value).toList 8 = some ([.lit (.string []), .lit (.int .i64 0)], [], places) :=
  ⟨[], by kernel_rfl⟩
set_option maxRecDepth 100000 in
theorem lifted (os : Os) (started : os.Started) (H : Type) (enc : TypeId × Value → H) (F : Stop.Interp) :
    ReturnsInHanded {} Tryd.checked os 6 .any ((OpenSpec.ofChange Rows.fnExactCutLogSpec).preRow enc Tryd.prog Tryd.f6 Rows.fnExactCutLogRow.domain false Rows.fnExactCutLogRow.laid) (((OpenSpec.ofChange Rows.fnExactCutLogSpec).at F).post enc Tryd.prog Tryd.f6 false true false false) := by
  obtain ⟨places, hx⟩ := reads os enc
  refine returnsInHanded_of_row (C := Tryd.checked) (s := OpenSpec.ofChange Rows.fnExactCutLogSpec) own started (by kernel_rfl) Tryd.func6
    (witness_row_at (enc := enc) (C := Tryd.checked) false (World.laidAll Tryd.prog os Rows.fnExactCutLogRow.laid) #[.string ByteArray.empty, .int .i64 0] (World.laidAll_os _ _ _) (by kernel_rfl) (by kernel_rfl) (by kernel_rfl)
      (OpenSpec.preRow_of_cond 8 hx (by kernel_rfl) (fun k hk => by cases hk) (by kernel_rfl) (laid_met os))) ?_
  intro W base args ds gs before hval0 hW _ _ _ hL hS _
  have hval : ∀ (j : Nat) t v, Tryd.f6.params[j]? = some t → args[j]? = some v → Value.okWide Tryd.prog W .any base t v := hval0
  have hW' := hW
  obtain ⟨p, q, hA0, hV, rfl, hfz, hnd⟩ := hW
  have hA : DataW.TrodAll enc Tryd.prog W 0 (fun _ => true) true Tryd.f6.params.toList args.toList ds p := hA0
  rw [Tryd.params6] at hA hval
  obtain ⟨v0, vs0, d0, ds0, p0, q0, hargs, rfl, rfl, h0, r0⟩ := trodAll_cons hA
  obtain ⟨v1, vs1, d1, ds1, p1, q1, rfl, rfl, rfl, h1, r1⟩ := trodAll_cons r0
  obtain ⟨rfl, rfl, rfl⟩ := trodAll_nil r1
  obtain rfl : args = #[v0, v1] := by cases args; simp_all
  obtain ⟨rfl, rfl⟩ := trodVars_none hV
  obtain ⟨a0, rfl, rfl, rfl, y0⟩ := open_string Tryd.underlying9 (hval 0 9 v0 rfl rfl) h0
  obtain ⟨a1, rfl, rfl, rfl, w1⟩ := open_int Tryd.underlying3 (hval 1 3 v1 rfl rfl) h1
  clear hA0 hval0
  obtain ⟨k, h⟩ := Pure.FnExactCutLog a0 a1 y0 w1
  refine (laws_FnExactCutLog.calls k a0 a1 W (tabs hL hS) h).mono fun e W' ⟨he, bel0⟩ => ?_
  have bel : Below W.heap.size W W' := bel0
  subst he
  exact ⟨_, rfl, _, _, _, [], _, [], hW', trodAll_mk1 (shut_bool Tryd.underlying4 _), (trodAll_cons_mk (shut_string Tryd.underlying9 y0) (trodAll_cons_mk (shut_int Tryd.underlying3 w1) trodAll_mk0)), rfl, bel.frame _, fun h => by cases h⟩
set_option maxRecDepth 100000 in
theorem said : Rows.FnExactCutLogSaid :=
  OpenClaim.holds_of_cond 6 Tryd.f6 rfl rfl rfl rfl rfl rfl rfl ⟨rfl, rfl, rfl, rfl, rfl⟩ rfl rfl rfl rfl rfl (by kernel_rfl) Tryd.func6
    (by show joinedFacts Tryd.prog 6 Tryd.f6 Rows.fnExactCutLogSpec Rows.fnExactCutLogRow = true; unfold joinedFacts; rw [Facts.enter_, Facts.finals_, Facts.make_]; kernel_rfl)
    (of_decide_eq_true (by kernel_rfl)) (by unfold Func.isWrapper; first | (rw [if_pos (by decide +kernel)]; kernel_rfl) | (rw [if_neg (by decide +kernel)]; exact ⟨rfl, rfl⟩))
    (fun os started H enc _ F => by rw [OpenClaim.pre_eq_preRow]; exact lifted os started H enc F)
theorem plain (f : FuncId) (fn : Func) (hf : Tryd.pinned.checked.prog.funcNamed "loop.example/g00641/laws.FnExactCutLog" = some f) (hfn : Tryd.pinned.checked.prog.funcs[f]? = some fn) :
    true = Tryd.pinned.checked.prog.looks [] ∧ ∀ (j : Nat) t, fn.params[j]? = some t → Tryd.pinned.checked.prog.wantsStandIn t = false := by
  obtain rfl : f = 6 := Option.some.inj ((show Tryd.prog.funcNamed "loop.example/g00641/laws.FnExactCutLog" = some 6 by kernel_rfl).symm.trans hf) |>.symm
  obtain rfl : fn = Tryd.f6 := (Option.some.inj (Tryd.func6.symm.trans hfn)).symm
  refine ⟨by kernel_rfl, fun j t ht => ?_⟩
  have h2 : (Tryd.f6.params.all fun t => !Tryd.prog.wantsStandIn t) = true := by kernel_rfl
  have h3 := Array.all_eq_true_iff_forall_mem.1 h2 t (Array.mem_of_getElem? ht)
  exact (show Tryd.prog.wantsStandIn t = false by simpa using h3)
theorem proved : Rows.FnExactCutLogCardSaid :=
  Claim7.holds_tied_plain_at .later [] _ _ _ _ said (fun _ h => by cases h) (by kernel_rfl) (fun _ h => by cases h) fnExactCutLog_row_tie rfl ⟨rfl, rfl⟩ (by kernel_rfl) rfl plain (by kernel_rfl)
end Go.Proofs.YtcihgepinnajjaaDoor.fnExactCutLog
namespace Go.Proofs.YtcihgepinnajjaaDoor
/-- The card, under a short name, for the claim. -/
theorem fnExactCutLog_holds : Rows.FnExactCutLogCardSaid := fnExactCutLog.proved
end Go.Proofs.YtcihgepinnajjaaDoor
