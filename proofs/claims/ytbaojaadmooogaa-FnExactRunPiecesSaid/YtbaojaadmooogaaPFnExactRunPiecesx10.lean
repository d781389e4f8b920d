import Derived.Test.YtbaojaadmooogaaPFnExactRunPiecesx0
import Derived.Test.YtbaojaadmooogaaPFnExactRunPiecesx9
namespace Go.Proofs.Ytbaojaadmooogaa.PFnExactRunPieces
open Go.RowKit Go.Proofs.YtbaojaadmooogaaW.PrintWords Go.Proofs.YtbaojaadmooogaaW.PrintLast Go.Proofs.YtbaojaadmooogaaW.PrintMore
attribute [local go_sem] max2_int min2_int max_two min_two max_three min_three max_four min_four
set_option linter.unusedVariables false
set_option linter.unusedSimpArgs false
def impl_together.f (k : Nat) (l0 : List Int) (l1 : List Int) : Option (List Int) := (slices_Concat_int_int.f k [l0, l1]).bind fun t => (slices_Sort_int_int.f t).bind fun t2 => (slices_Compact_int_int.f t2).bind fun t3 => some t3
theorem impl_together.mono : ∀ a0 a1 k, LeO (impl_together.f k a0 a1) (impl_together.f (k + 1) a0 a1) := by
 intro a0 a1 k
 unfold impl_together.f
 repeat' first
   | (with_reducible exact slices_Concat_int_int.mono _ _)
   | (with_reducible exact LeO.refl _)
   | (with_reducible exact LeO.none _)
   | (with_reducible refine LeO.ite ?_ ?_)
   | (with_reducible refine LeO.bind ?_ (fun _ => ?_))
   | exact slices_Concat_int_int.mono _ _
   | exact LeO.none _
   | refine LeO.ite ?_ ?_
   | refine LeO.bind ?_ (fun _ => ?_)
set_option maxHeartbeats 8000000 in
set_option maxRecDepth 100000 in
theorem impl_together.calls (k : Nat) (A0 : Option Addr) (c0 : Nat) (l0 : List Int) (A1 : Option Addr) (c1 : Nat) (l1 : List Int) (r : List Int) (w : World) (hr0 : Kd.C (Kd.int .i64) w A0 l0.length l0) (hc0 : l0.length ≤ c0) (hr1 : Kd.C (Kd.int .i64) w A1 l1.length l1) (hc1 : l1.length ≤ c1) (h : impl_together.f k l0 l1 = some r) :
  Calls Try.prog 109 #[.slice A0 l0.length c0, .slice A1 l1.length c1] w fun e w' => ∃ v0_ : Value, e = .returned (v0_) ∧ Kd.R (Kd.int .i64) 3 w' w.heap.size (fun _ => True) v0_ r ∧ Below w.heap.size w w' := by
 unfold impl_together.f at h
 obtain ⟨t, h1, h⟩ := Option.bind_eq_some_iff.1 h; obtain ⟨t2, h2, h⟩ := Option.bind_eq_some_iff.1 h; obtain ⟨t3, h3, h⟩ := Option.bind_eq_some_iff.1 h; obtain rfl := Option.some.inj h; have hb0 : Below w.heap.size w (w.alloc (.cells #[.slice A0 l0.length c0, .slice A1 l1.length c1] 37)) := below_alloc (Below.refl _ _) _; have hC : Kd.C (Kd.slice 3 (Kd.int .i64)) (w.alloc (.cells #[.slice A0 l0.length c0, .slice A1 l1.length c1] 37)) (some ⟨w.heap.size, 0, none⟩) ([l0, l1] : List (List Int)).length [l0, l1] := by
  refine ⟨rfl, by simp, fun _ => ⟨_, rfl, fun j p hp => ?_⟩⟩
  match j, hp with
  | 0, hp =>
   obtain rfl : l0 = p := by simpa using hp
   refine ⟨[.slice A0 l0.length c0], rfl, ⟨A0, c0, rfl, hc0, Kd.C_below hr0 hb0⟩, fun i u hu => ?_⟩
   match i, hu with
   | 0, hu =>
    obtain rfl : Value.slice A0 l0.length c0 = u := by simpa using hu
    simp [Addr.add]
   | i + 1, hu => simp at hu
  | 1, hp =>
   obtain rfl : l1 = p := by simpa using hp
   refine ⟨[.slice A1 l1.length c1], rfl, ⟨A1, c1, rfl, hc1, Kd.C_below hr1 hb0⟩, fun i u hu => ?_⟩
   match i, hu with
   | 0, hu =>
    obtain rfl : Value.slice A1 l1.length c1 = u := by simpa using hu
    simp [Addr.add, show (Kd.slice 3 (Kd.int .i64)).sz = 1 from rfl]
   | i + 1, hu => simp at hu
  | j + 2, hp => simp at hp
 have HC := Lib.hid (slices_Concat_int_int.calls k (some ⟨w.heap.size, 0, none⟩) 2 [l0, l1] t _ hC (Nat.le_refl _) h1); have HB0 := Aside0.mk hb0; have H2 := Aside0.mk h2; have H3 := Aside0.mk h3; clear hr0 hr1 hC hb0 h1 h2 h3 h
 go_enter Try.func109, Try.ntmps109
 go_wp2_with (first | (go_at_call 124; refine HC.out.mono ?_; rintro e w1 ⟨v, rfl, hR, hb⟩; have HB1 := Aside0.mk (below_step HB0.out hb); obtain ⟨Ao, co, rfl⟩ := Kd.R_slice hR; have HR1 := Aside0.mk (Kd.R_lower hR (by simp : w.heap.size ≤ _)); clear hR hb) | (go_at_call 122; refine (slices_Sort_int_int.calls (fun k_ => some k_ = (.slice Ao t.length co : Value).ownBlock) (.slice Ao t.length co) t t2 w _ HB1.out (Kd.R_tight rfl HR1.out) H2.out).mono ?_; rintro e w2 ⟨rfl, hR, hb, hk⟩; have HR2 := Aside0.mk hR; have HB2 := Aside0.mk hb; clear hR hb hk) | (go_at_call 125; refine (slices_Compact_int_int.calls _ (.slice Ao t.length co) t2 t3 w _ HB2.out HR2.out H3.out).mono ?_; rintro e w3 ⟨v3, rfl, hR, hb, hk⟩))
 exact bodyPost_ret (v := v3) (by simp [results, go_sem]) rfl ⟨v3, rfl, Kd.R_mono hR (fun _ _ => trivial), hb⟩
end Go.Proofs.Ytbaojaadmooogaa.PFnExactRunPieces
