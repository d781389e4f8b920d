-- Written for this claim by the session's own program (drive.py), over the kit's print, with contracts typed by hand.
import Derived.Test.YtlabpbkeaelecaaPFnExactRunBallotx0
import Derived.Test.YtlabpbkeaelecaaPFnExactRunBallotx4
namespace Go.Proofs.Ytlabpbkeaelecaa.PFnExactRunBallot
open Go.RowKit Go.Proofs.YtlabpbkeaelecaaW.PrintWords Go.Proofs.YtlabpbkeaelecaaW.PrintLast Go.Proofs.YtlabpbkeaelecaaW.PrintMore
attribute [local go_sem] max2_int min2_int max_two min_two max_three min_three max_four min_four   -- for this text's walks alone
set_option linter.unusedVariables false
set_option linter.unusedSimpArgs false

/-! ### impl_arePlaces: function 117 -/
def impl_arePlaces.f (k : Nat) (a0 : Int) (l1 : List Int) : Option (Bool) := (impl_isMany.f a0).bind fun t202 => (if t202 = true then ((impl_isRising.f k l1 0 (wrap64 (a0 - 1))).bind fun t203 => (some t203)) else (some false))
theorem impl_arePlaces.mono : ∀ a0 a1 k, LeO (impl_arePlaces.f k a0 a1) (impl_arePlaces.f (k + 1) a0 a1) := by
 intro a0 a1 k
 unfold impl_arePlaces.f
 repeat' first
   | (with_reducible exact impl_isRising.mono _ _ _ _)
   | (with_reducible exact LeO.refl _)
   | (with_reducible exact LeO.none _)
   | (with_reducible refine LeO.ite ?_ ?_)
   | (with_reducible refine LeO.bind ?_ (fun _ => ?_))
   | exact impl_isRising.mono _ _ _ _
   | exact LeO.none _
   | refine LeO.ite ?_ ?_
   | refine LeO.bind ?_ (fun _ => ?_)
set_option maxHeartbeats 8000000 in
set_option maxRecDepth 100000 in
theorem impl_arePlaces.calls (k : Nat) (a0 : Int) (A1 : Option Addr) (c1 : Nat) (l1 : List Int) (r : Bool) (w : World) (hr1 : Kd.C (Kd.int .i64) w A1 l1.length l1) (hc1 : l1.length ≤ c1) (h : impl_arePlaces.f k a0 l1 = some r) :
  Calls Try.prog 117 #[.int .i64 a0, .slice A1 l1.length c1] w fun e w' => e = .returned (.bool r) ∧ Drawn0 w w' := by
 have HR1 := Aside0.mk hr1
 have HC1 := Aside0.mk hc1
 clear hr1 hc1
 have H : ((impl_isMany.f a0).bind fun t202 => (if t202 = true then ((impl_isRising.f k l1 0 (wrap64 (a0 - 1))).bind fun t203 => (some t203)) else (some false))) = some r := h
 clear h
 replace H := Option.bind_eq_some_iff.mp H
 obtain ⟨t202, A30, H⟩ := H
 replace H : (if t202 = true then ((impl_isRising.f k l1 0 (wrap64 (a0 - 1))).bind fun t203 => (some t203)) else (some false)) = some r := H
 have A3 := Aside0.mk A30
 clear A30
 by_cases c4 : t202 = true
 ·subst c4
  have H1 : ((impl_isRising.f k l1 0 (wrap64 (a0 - 1))).bind fun t203 => (some t203)) = some r := by rw [if_pos rfl] at H; exact H
  clear H
  have H := H1
  clear H1
  replace H := Option.bind_eq_some_iff.mp H
  obtain ⟨t203, A50, H⟩ := H
  replace H : (some t203) = some r := H
  have A5 := Aside0.mk A50
  clear A50
  obtain rfl := Option.some.inj H
  go_enter Try.func117, Try.ntmps117
  go_wp2_with (first | ((with_reducible refine gate_callee (f := 94) rfl ?_); refine goesL_ (some 6) rfl rfl Try.func94 (by kernel_rfl) rfl #[.int .i64 a0] rfl (by (try simp only [List.map_toArray, List.map_cons, List.map_nil]); first | done | rfl | (simp only [List.length_drop, List.length_take]; rfl)) ?_; (with_reducible refine (impl_isMany.calls a0 true _ A3.out).mono ?_); rintro e w' ⟨rfl, ⟨nd, rfl⟩⟩; refine ⟨_, rfl, ?_⟩) | (go_at_call 148; (with_reducible refine (impl_isRising.calls k _ _ l1 0 (wrap64 (a0 - 1)) t203 _ ?side1 ?side2 A5.out).mono ?_); (case side1 => repeat (first | exact HR1.out | (with_reducible refine Kd.C_alloc ?_ _) | (with_reducible refine Kd.C_drewN ?_ _) | (with_reducible refine Kd.C_drew ?_))); (case side2 => exact HC1.out); rintro e w' ⟨rfl, ⟨nd, rfl⟩⟩))
  go_ret
  exact ⟨by first | rfl | (simp; done) | (simp [*]; done), by repeat (first | exact Drawn0.refl _ | apply Drawn0.step)⟩
 ·replace c4 := Bool.eq_false_iff.mpr c4
  subst c4
  have H1 : (some false) = some r := by rw [if_neg (show ¬ (false = true) by decide)] at H; exact H
  clear H
  have H := H1
  clear H1
  obtain rfl := Option.some.inj H
  go_enter Try.func117, Try.ntmps117
  go_wp2_with (first | ((with_reducible refine gate_callee (f := 94) rfl ?_); refine goesL_ (some 6) rfl rfl Try.func94 (by kernel_rfl) rfl #[.int .i64 a0] rfl (by (try simp only [List.map_toArray, List.map_cons, List.map_nil]); first | done | rfl | (simp only [List.length_drop, List.length_take]; rfl)) ?_; (with_reducible refine (impl_isMany.calls a0 false _ A3.out).mono ?_); rintro e w' ⟨rfl, ⟨nd, rfl⟩⟩; refine ⟨_, rfl, ?_⟩))
  go_ret
  exact ⟨by first | rfl | (simp; done) | (simp [*]; done), by repeat (first | exact Drawn0.refl _ | apply Drawn0.step)⟩

/-! ### impl_isBallot: function 121 -/
def impl_isBallot.f (a0 : Int) : Option (Bool) := (impl_within.f a0 1 40).bind fun t204 => (some t204)
set_option maxHeartbeats 8000000 in
set_option maxRecDepth 100000 in
theorem impl_isBallot.calls (a0 : Int) (r : Bool) (w : World) (h : impl_isBallot.f a0 = some r) :
  Calls Try.prog 121 #[.int .i64 a0] w fun e w' => e = .returned (.bool r) ∧ Drawn0 w w' := by
 have H : ((impl_within.f a0 1 40).bind fun t204 => (some t204)) = some r := h
 clear h
 replace H := Option.bind_eq_some_iff.mp H
 obtain ⟨t204, A20, H⟩ := H
 replace H : (some t204) = some r := H
 have A2 := Aside0.mk A20
 clear A20
 obtain rfl := Option.some.inj H
 go_enter Try.func121, Try.ntmps121
 go_wp2_with (first | ((with_reducible refine gate_callee (f := 97) rfl ?_); refine goesL_ (some 4) rfl rfl Try.func97 (by kernel_rfl) rfl #[.int .i64 a0, .int .i64 1, .int .i64 40] rfl (by (try simp only [List.map_toArray, List.map_cons, List.map_nil]); first | done | rfl | (simp only [List.length_drop, List.length_take]; rfl)) ?_; (with_reducible refine (impl_within.calls a0 1 40 t204 _ A2.out).mono ?_); rintro e w' ⟨rfl, ⟨nd, rfl⟩⟩; refine ⟨_, rfl, ?_⟩))
 go_ret
 exact ⟨by first | rfl | (simp; done) | (simp [*]; done), by repeat (first | exact Drawn0.refl _ | apply Drawn0.step)⟩

/-! ### impl_Ballot_isGood: function 135 -/
def impl_Ballot_isGood.f (k : Nat) (a0_0 : Int) (a0_1 : Int) (l0_2 : List Int) (l0_3 : List Int) (a1 : Int) : Option (Bool) := (impl_isBallot.f a0_0).bind fun t206 => (if t206 = true then ((impl_isWord.f a0_1).bind fun t207 => (if t207 = true then ((impl_arePlaces.f k a1 l0_2).bind fun t208 => (if t208 = true then ((impl_arePlaces.f k a1 l0_3).bind fun t209 => (some t209)) else (some false))) else (some false))) else (some false))
theorem impl_Ballot_isGood.mono : ∀ a0 a1 a2 a3 a4 k, LeO (impl_Ballot_isGood.f k a0 a1 a2 a3 a4) (impl_Ballot_isGood.f (k + 1) a0 a1 a2 a3 a4) := by
 intro a0 a1 a2 a3 a4 k
 unfold impl_Ballot_isGood.f
 repeat' first
   | (with_reducible exact impl_arePlaces.mono _ _ _)
   | (with_reducible exact LeO.refl _)
   | (with_reducible exact LeO.none _)
   | (with_reducible refine LeO.ite ?_ ?_)
   | (with_reducible refine LeO.bind ?_ (fun _ => ?_))
   | exact impl_arePlaces.mono _ _ _
   | exact LeO.none _
   | refine LeO.ite ?_ ?_
   | refine LeO.bind ?_ (fun _ => ?_)
set_option maxHeartbeats 8000000 in
set_option maxRecDepth 100000 in
theorem impl_Ballot_isGood.calls (k : Nat) (a0_0 : Int) (a0_1 : Int) (A0_2 : Option Addr) (c0_2 : Nat) (l0_2 : List Int) (A0_3 : Option Addr) (c0_3 : Nat) (l0_3 : List Int) (a1 : Int) (r : Bool) (w : World) (hr0_2 : Kd.C (Kd.int .i64) w A0_2 l0_2.length l0_2) (hc0_2 : l0_2.length ≤ c0_2) (hr0_3 : Kd.C (Kd.int .i64) w A0_3 l0_3.length l0_3) (hc0_3 : l0_3.length ≤ c0_3) (h : impl_Ballot_isGood.f k a0_0 a0_1 l0_2 l0_3 a1 = some r) :
  Calls Try.prog 135 #[.agg #[.int .i64 a0_0, .int .i64 a0_1, .slice A0_2 l0_2.length c0_2, .slice A0_3 l0_3.length c0_3], .int .i64 a1] w fun e w' => e = .returned (.bool r) ∧ Below w.heap.size w w' := by
 have hu83 := Try.underlying83
 have HR0_2 := Aside0.mk hr0_2
 have HC0_2 := Aside0.mk hc0_2
 clear hr0_2 hc0_2
 have HR0_3 := Aside0.mk hr0_3
 have HC0_3 := Aside0.mk hc0_3
 clear hr0_3 hc0_3
 have HB := Aside0.mk (Below.refl w.heap.size w)
 have H : ((impl_isBallot.f a0_0).bind fun t206 => (if t206 = true then ((impl_isWord.f a0_1).bind fun t207 => (if t207 = true then ((impl_arePlaces.f k a1 l0_2).bind fun t208 => (if t208 = true then ((impl_arePlaces.f k a1 l0_3).bind fun t209 => (some t209)) else (some false))) else (some false))) else (some false))) = some r := h
 clear h
 replace H := Option.bind_eq_some_iff.mp H
 obtain ⟨t206, A30, H⟩ := H
 replace H : (if t206 = true then ((impl_isWord.f a0_1).bind fun t207 => (if t207 = true then ((impl_arePlaces.f k a1 l0_2).bind fun t208 => (if t208 = true then ((impl_arePlaces.f k a1 l0_3).bind fun t209 => (some t209)) else (some false))) else (some false))) else (some false)) = some r := H
 have A3 := Aside0.mk A30
 clear A30
 by_cases c4 : t206 = true
 ·subst c4
  have H1 : ((impl_isWord.f a0_1).bind fun t207 => (if t207 = true then ((impl_arePlaces.f k a1 l0_2).bind fun t208 => (if t208 = true then ((impl_arePlaces.f k a1 l0_3).bind fun t209 => (some t209)) else (some false))) else (some false))) = some r := by rw [if_pos rfl] at H; exact H
  clear H
  have H := H1
  clear H1
  replace H := Option.bind_eq_some_iff.mp H
  obtain ⟨t207, A50, H⟩ := H
  replace H : (if t207 = true then ((impl_arePlaces.f k a1 l0_2).bind fun t208 => (if t208 = true then ((impl_arePlaces.f k a1 l0_3).bind fun t209 => (some t209)) else (some false))) else (some false)) = some r := H
  have A5 := Aside0.mk A50
  clear A50
  by_cases c6 : t207 = true
  ·subst c6
   have H1 : ((impl_arePlaces.f k a1 l0_2).bind fun t208 => (if t208 = true then ((impl_arePlaces.f k a1 l0_3).bind fun t209 => (some t209)) else (some false))) = some r := by rw [if_pos rfl] at H; exact H
   clear H
   have H := H1
   clear H1
   replace H := Option.bind_eq_some_iff.mp H
   obtain ⟨t208, A70, H⟩ := H
   replace H : (if t208 = true then ((impl_arePlaces.f k a1 l0_3).bind fun t209 => (some t209)) else (some false)) = some r := H
   have A7 := Aside0.mk A70
   clear A70
   by_cases c8 : t208 = true
   ·subst c8
    have H1 : ((impl_arePlaces.f k a1 l0_3).bind fun t209 => (some t209)) = some r := by rw [if_pos rfl] at H; exact H
    clear H
    have H := H1
    clear H1
    replace H := Option.bind_eq_some_iff.mp H
    obtain ⟨t209, A90, H⟩ := H
    replace H : (some t209) = some r := H
    have A9 := Aside0.mk A90
    clear A90
    obtain rfl := Option.some.inj H
    go_enter Try.func135, Try.ntmps135
    go_wp2_with (first | ((with_reducible refine gate_dst (N := 2) rfl ?_); refine box_event ?hg (N := 2) ?hd (cs := #[.int .i64 a0_0, .int .i64 a0_1, .slice A0_2 l0_2.length c0_2, .slice A0_3 l0_3.length c0_3]) (t := 83) ?hr ?_; (case hd => rfl); (case hg => rfl); (case hr => first | (go_simp; done) | (go_simp; rfl)); intro gb205 hg w10 hbox hb; have n0_ := Aside0.mk (below_step (by repeat first | exact HB.out | apply below_alloc | apply pw_below_drewN | apply below_drew1) hb); have n1_ := Aside0.mk (hbox); have n2_ := Aside0.mk ((by rw [hg]; exact (below_size (by repeat first | exact HB.out | apply below_alloc | apply pw_below_drewN | apply below_drew1)) : w.heap.size ≤ gb205)); have n3_ := Aside0.mk ((by rw [hg]; exact (below_size (by repeat first | exact HB.out | apply below_alloc | apply pw_below_drewN | apply below_drew1)) : w.heap.size ≤ gb205)); clear HB; have HB := n0_; have BK205 := n1_; have GW205 := n2_; have GE205 := n3_; clear n0_ n1_ n2_ n3_; clear hb hbox hg; have hcz11_0 : w10.cell? ⟨gb205, 0, none⟩ = some (.int .i64 a0_0) := (blk_cell BK205.out 0).trans rfl; have hcz11_1 : w10.cell? ⟨gb205, 1, none⟩ = some (.int .i64 a0_1) := (blk_cell BK205.out 1).trans rfl; have hcz11_2 : w10.cell? ⟨gb205, 2, none⟩ = some (.slice A0_2 l0_2.length c0_2) := (blk_cell BK205.out 2).trans rfl; have hcz11_3 : w10.cell? ⟨gb205, 3, none⟩ = some (.slice A0_3 l0_3.length c0_3) := (blk_cell BK205.out 3).trans rfl; have hfz11_0 := blk_frozen BK205.out 0; have hfz11_1 := blk_frozen BK205.out 1; have hfz11_2 := blk_frozen BK205.out 2; have hfz11_3 := blk_frozen BK205.out 3) | ((with_reducible refine gate_callee (f := 121) rfl ?_); refine goesL_ (some 7) rfl rfl Try.func121 (by kernel_rfl) rfl #[.int .i64 a0_0] rfl (by (try simp only [List.map_toArray, List.map_cons, List.map_nil]); first | done | rfl | (simp only [List.length_drop, List.length_take]; rfl)) ?_; (with_reducible refine (impl_isBallot.calls a0_0 true _ A3.out).mono ?_); rintro e w' ⟨rfl, ⟨nd, rfl⟩⟩; refine ⟨_, rfl, ?_⟩) | (go_at_call 101; (with_reducible refine (impl_isWord.calls a0_1 true _ A5.out).mono ?_); rintro e w' ⟨rfl, ⟨nd, rfl⟩⟩) | (go_at_call 117; (with_reducible refine (impl_arePlaces.calls k a1 _ _ l0_2 true _ ?side1 ?side2 A7.out).mono ?_); (case side1 => repeat (first | exact (Kd.C_below HR0_2.out (by repeat (first | (with_reducible first | exact HB.out | apply below_alloc | apply pw_below_drewN | apply below_drew1 | refine below_set ?_ GE205.out) | exact HB.out))) | (with_reducible refine Kd.C_alloc ?_ _) | (with_reducible refine Kd.C_drewN ?_ _) | (with_reducible refine Kd.C_drew ?_))); (case side2 => exact HC0_2.out); rintro e w' ⟨rfl, ⟨nd, rfl⟩⟩) | (go_at_call 117; (with_reducible refine (impl_arePlaces.calls k a1 _ _ l0_3 t209 _ ?side1 ?side2 A9.out).mono ?_); (case side1 => repeat (first | exact (Kd.C_below HR0_3.out (by repeat (first | (with_reducible first | exact HB.out | apply below_alloc | apply pw_below_drewN | apply below_drew1 | refine below_set ?_ GE205.out) | exact HB.out))) | (with_reducible refine Kd.C_alloc ?_ _) | (with_reducible refine Kd.C_drewN ?_ _) | (with_reducible refine Kd.C_drew ?_))); (case side2 => exact HC0_3.out); rintro e w' ⟨rfl, ⟨nd, rfl⟩⟩))
    go_ret
    exact ⟨by first | rfl | (simp [errW_none, errW_some] <;> rfl) | (simp [*, errW_none, errW_some] <;> rfl), by repeat (first | (with_reducible first | exact HB.out | apply below_alloc | apply pw_below_drewN | apply below_drew1 | refine below_set ?_ GE205.out) | exact HB.out)⟩
   ·replace c8 := Bool.eq_false_iff.mpr c8
    subst c8
    have H1 : (some false) = some r := by rw [if_neg (show ¬ (false = true) by decide)] at H; exact H
    clear H
    have H := H1
    clear H1
    obtain rfl := Option.some.inj H
    go_enter Try.func135, Try.ntmps135
    go_wp2_with (first | ((with_reducible refine gate_dst (N := 2) rfl ?_); refine box_event ?hg (N := 2) ?hd (cs := #[.int .i64 a0_0, .int .i64 a0_1, .slice A0_2 l0_2.length c0_2, .slice A0_3 l0_3.length c0_3]) (t := 83) ?hr ?_; (case hd => rfl); (case hg => rfl); (case hr => first | (go_simp; done) | (go_simp; rfl)); intro gb205 hg w12 hbox hb; have n0_ := Aside0.mk (below_step (by repeat first | exact HB.out | apply below_alloc | apply pw_below_drewN | apply below_drew1) hb); have n1_ := Aside0.mk (hbox); have n2_ := Aside0.mk ((by rw [hg]; exact (below_size (by repeat first | exact HB.out | apply below_alloc | apply pw_below_drewN | apply below_drew1)) : w.heap.size ≤ gb205)); have n3_ := Aside0.mk ((by rw [hg]; exact (below_size (by repeat first | exact HB.out | apply below_alloc | apply pw_below_drewN | apply below_drew1)) : w.heap.size ≤ gb205)); clear HB; have HB := n0_; have BK205 := n1_; have GW205 := n2_; have GE205 := n3_; clear n0_ n1_ n2_ n3_; clear hb hbox hg; have hcz13_0 : w12.cell? ⟨gb205, 0, none⟩ = some (.int .i64 a0_0) := (blk_cell BK205.out 0).trans rfl; have hcz13_1 : w12.cell? ⟨gb205, 1, none⟩ = some (.int .i64 a0_1) := (blk_cell BK205.out 1).trans rfl; have hcz13_2 : w12.cell? ⟨gb205, 2, none⟩ = some (.slice A0_2 l0_2.length c0_2) := (blk_cell BK205.out 2).trans rfl; have hcz13_3 : w12.cell? ⟨gb205, 3, none⟩ = some (.slice A0_3 l0_3.length c0_3) := (blk_cell BK205.out 3).trans rfl; have hfz13_0 := blk_frozen BK205.out 0; have hfz13_1 := blk_frozen BK205.out 1; have hfz13_2 := blk_frozen BK205.out 2; have hfz13_3 := blk_frozen BK205.out 3) | ((with_reducible refine gate_callee (f := 121) rfl ?_); refine goesL_ (some 7) rfl rfl Try.func121 (by kernel_rfl) rfl #[.int .i64 a0_0] rfl (by (try simp only [List.map_toArray, List.map_cons, List.map_nil]); first | done | rfl | (simp only [List.length_drop, List.length_take]; rfl)) ?_; (with_reducible refine (impl_isBallot.calls a0_0 true _ A3.out).mono ?_); rintro e w' ⟨rfl, ⟨nd, rfl⟩⟩; refine ⟨_, rfl, ?_⟩) | (go_at_call 101; (with_reducible refine (impl_isWord.calls a0_1 true _ A5.out).mono ?_); rintro e w' ⟨rfl, ⟨nd, rfl⟩⟩) | (go_at_call 117; (with_reducible refine (impl_arePlaces.calls k a1 _ _ l0_2 false _ ?side1 ?side2 A7.out).mono ?_); (case side1 => repeat (first | exact (Kd.C_below HR0_2.out (by repeat (first | (with_reducible first | exact HB.out | apply below_alloc | apply pw_below_drewN | apply below_drew1 | refine below_set ?_ GE205.out) | exact HB.out))) | (with_reducible refine Kd.C_alloc ?_ _) | (with_reducible refine Kd.C_drewN ?_ _) | (with_reducible refine Kd.C_drew ?_))); (case side2 => exact HC0_2.out); rintro e w' ⟨rfl, ⟨nd, rfl⟩⟩))
    go_ret
    exact ⟨by first | rfl | (simp [errW_none, errW_some] <;> rfl) | (simp [*, errW_none, errW_some] <;> rfl), by repeat (first | (with_reducible first | exact HB.out | apply below_alloc | apply pw_below_drewN | apply below_drew1 | refine below_set ?_ GE205.out) | exact HB.out)⟩
  ·replace c6 := Bool.eq_false_iff.mpr c6
   subst c6
   have H1 : (some false) = some r := by rw [if_neg (show ¬ (false = true) by decide)] at H; exact H
   clear H
   have H := H1
   clear H1
   obtain rfl := Option.some.inj H
   go_enter Try.func135, Try.ntmps135
   go_wp2_with (first | ((with_reducible refine gate_dst (N := 2) rfl ?_); refine box_event ?hg (N := 2) ?hd (cs := #[.int .i64 a0_0, .int .i64 a0_1, .slice A0_2 l0_2.length c0_2, .slice A0_3 l0_3.length c0_3]) (t := 83) ?hr ?_; (case hd => rfl); (case hg => rfl); (case hr => first | (go_simp; done) | (go_simp; rfl)); intro gb205 hg w14 hbox hb; have n0_ := Aside0.mk (below_step (by repeat first | exact HB.out | apply below_alloc | apply pw_below_drewN | apply below_drew1) hb); have n1_ := Aside0.mk (hbox); have n2_ := Aside0.mk ((by rw [hg]; exact (below_size (by repeat first | exact HB.out | apply below_alloc | apply pw_below_drewN | apply below_drew1)) : w.heap.size ≤ gb205)); have n3_ := Aside0.mk ((by rw [hg]; exact (below_size (by repeat first | exact HB.out | apply below_alloc | apply pw_below_drewN | apply below_drew1)) : w.heap.size ≤ gb205)); clear HB; have HB := n0_; have BK205 := n1_; have GW205 := n2_; have GE205 := n3_; clear n0_ n1_ n2_ n3_; clear hb hbox hg; have hcz15_0 : w14.cell? ⟨gb205, 0, none⟩ = some (.int .i64 a0_0) := (blk_cell BK205.out 0).trans rfl; have hcz15_1 : w14.cell? ⟨gb205, 1, none⟩ = some (.int .i64 a0_1) := (blk_cell BK205.out 1).trans rfl; have hcz15_2 : w14.cell? ⟨gb205, 2, none⟩ = some (.slice A0_2 l0_2.length c0_2) := (blk_cell BK205.out 2).trans rfl; have hcz15_3 : w14.cell? ⟨gb205, 3, none⟩ = some (.slice A0_3 l0_3.length c0_3) := (blk_cell BK205.out 3).trans rfl; have hfz15_0 := blk_frozen BK205.out 0; have hfz15_1 := blk_frozen BK205.out 1; have hfz15_2 := blk_frozen BK205.out 2; have hfz15_3 := blk_frozen BK205.out 3) | ((with_reducible refine gate_callee (f := 121) rfl ?_); refine goesL_ (some 7) rfl rfl Try.func121 (by kernel_rfl) rfl #[.int .i64 a0_0] rfl (by (try simp only [List.map_toArray, List.map_cons, List.map_nil]); first | done | rfl | (simp only [List.length_drop, List.length_take]; rfl)) ?_; (with_reducible refine (impl_isBallot.calls a0_0 true _ A3.out).mono ?_); rintro e w' ⟨rfl, ⟨nd, rfl⟩⟩; refine ⟨_, rfl, ?_⟩) | (go_at_call 101; (with_reducible refine (impl_isWord.calls a0_1 false _ A5.out).mono ?_); rintro e w' ⟨rfl, ⟨nd, rfl⟩⟩))
   go_ret
   exact ⟨by first | rfl | (simp [errW_none, errW_some] <;> rfl) | (simp [*, errW_none, errW_some] <;> rfl), by repeat (first | (with_reducible first | exact HB.out | apply below_alloc | apply pw_below_drewN | apply below_drew1 | refine below_set ?_ GE205.out) | exact HB.out)⟩
 ·replace c4 := Bool.eq_false_iff.mpr c4
  subst c4
  have H1 : (some false) = some r := by rw [if_neg (show ¬ (false = true) by decide)] at H; exact H
  clear H
  have H := H1
  clear H1
  obtain rfl := Option.some.inj H
  go_enter Try.func135, Try.ntmps135
  go_wp2_with (first | ((with_reducible refine gate_dst (N := 2) rfl ?_); refine box_event ?hg (N := 2) ?hd (cs := #[.int .i64 a0_0, .int .i64 a0_1, .slice A0_2 l0_2.length c0_2, .slice A0_3 l0_3.length c0_3]) (t := 83) ?hr ?_; (case hd => rfl); (case hg => rfl); (case hr => first | (go_simp; done) | (go_simp; rfl)); intro gb205 hg w16 hbox hb; have n0_ := Aside0.mk (below_step (by repeat first | exact HB.out | apply below_alloc | apply pw_below_drewN | apply below_drew1) hb); have n1_ := Aside0.mk (hbox); have n2_ := Aside0.mk ((by rw [hg]; exact (below_size (by repeat first | exact HB.out | apply below_alloc | apply pw_below_drewN | apply below_drew1)) : w.heap.size ≤ gb205)); have n3_ := Aside0.mk ((by rw [hg]; exact (below_size (by repeat first | exact HB.out | apply below_alloc | apply pw_below_drewN | apply below_drew1)) : w.heap.size ≤ gb205)); clear HB; have HB := n0_; have BK205 := n1_; have GW205 := n2_; have GE205 := n3_; clear n0_ n1_ n2_ n3_; clear hb hbox hg; have hcz17_0 : w16.cell? ⟨gb205, 0, none⟩ = some (.int .i64 a0_0) := (blk_cell BK205.out 0).trans rfl; have hcz17_1 : w16.cell? ⟨gb205, 1, none⟩ = some (.int .i64 a0_1) := (blk_cell BK205.out 1).trans rfl; have hcz17_2 : w16.cell? ⟨gb205, 2, none⟩ = some (.slice A0_2 l0_2.length c0_2) := (blk_cell BK205.out 2).trans rfl; have hcz17_3 : w16.cell? ⟨gb205, 3, none⟩ = some (.slice A0_3 l0_3.length c0_3) := (blk_cell BK205.out 3).trans rfl; have hfz17_0 := blk_frozen BK205.out 0; have hfz17_1 := blk_frozen BK205.out 1; have hfz17_2 := blk_frozen BK205.out 2; have hfz17_3 := blk_frozen BK205.out 3) | ((with_reducible refine gate_callee (f := 121) rfl ?_); refine goesL_ (some 7) rfl rfl Try.func121 (by kernel_rfl) rfl #[.int .i64 a0_0] rfl (by (try simp only [List.map_toArray, List.map_cons, List.map_nil]); first | done | rfl | (simp only [List.length_drop, List.length_take]; rfl)) ?_; (with_reducible refine (impl_isBallot.calls a0_0 false _ A3.out).mono ?_); rintro e w' ⟨rfl, ⟨nd, rfl⟩⟩; refine ⟨_, rfl, ?_⟩))
  go_ret
  exact ⟨by first | rfl | (simp [errW_none, errW_some] <;> rfl) | (simp [*, errW_none, errW_some] <;> rfl), by repeat (first | (with_reducible first | exact HB.out | apply below_alloc | apply pw_below_drewN | apply below_drew1 | refine below_set ?_ GE205.out) | exact HB.out)⟩

/-! ### impl_slow: function 106 -/
def impl_slow.f (a0 : Int) : Option (Int) := some (wrap64 ((wrap64 (Int.tdiv a0 2)) + 1))
set_option maxHeartbeats 8000000 in
set_option maxRecDepth 100000 in
theorem impl_slow.calls (a0 : Int) (r : Int) (w : World) (h : impl_slow.f a0 = some r) :
  Calls Try.prog 106 #[.int .i64 a0] w fun e w' => e = .returned (.int .i64 r) ∧ Drawn0 w w' := by
 have H : (some (wrap64 ((wrap64 (Int.tdiv a0 2)) + 1))) = some r := h
 clear h
 obtain rfl := Option.some.inj H
 go_enter Try.func106, Try.ntmps106
 go_wp2
 go_ret
 exact ⟨by first | rfl | (simp; done) | (simp [*]; done), by repeat (first | exact Drawn0.refl _ | apply Drawn0.step)⟩

/-! ### impl_Place_152: function 152, by hand -/
theorem reps_flat {α : Type} (enc : α → List Value) (k : Nat) (hk : ∀ x, (enc x).length = k) : ∀ l : List α, Reps (fun x cs => cs = enc x) k l (l.flatMap enc)
 | [] => Reps.none _ _
 | x :: l => by
  rw [List.flatMap_cons]
  exact Reps.front rfl (hk x) (reps_flat enc k hk l) rfl
theorem flat_cells {α : Type} (enc : α → List Value) (k : Nat) (hk0 : 0 < k) (hk : ∀ x, (enc x).length = k) (z : α) (l : List α) (w : World) (b off : Nat) (hc : ∀ j, j < l.length → ∀ i v, (enc (l.getD j z))[i]? = some v → w.cell? ⟨b, off + (j * k + i), none⟩ = some v) :
  ∀ j u, (l.flatMap enc)[j]? = some u → w.cell? ⟨b, off + j, none⟩ = some u := by
 intro j u hu
 have hr := reps_flat enc k hk l
 have hj : j < (l.flatMap enc).length := (List.getElem?_eq_some_iff.1 hu).1
 rw [hr.1] at hj
 have hjl : j / k < l.length := (Nat.div_lt_iff_lt_mul hk0).2 hj
 have h1 := hr.2 (j / k) _ (List.getElem?_eq_getElem hjl)
 have e : j / k * k + j % k = j := by rw [Nat.mul_comm]; exact Nat.div_add_mod j k
 have h2 := hc (j / k) hjl (j % k) u (by
  rw [List.getD, List.getElem?_eq_getElem hjl, Option.getD_some, ← h1, List.getElem?_take, if_pos (Nat.mod_lt _ hk0), List.getElem?_drop, e]
  exact hu)
 rwa [e] at h2
theorem flat_one {α : Type} (enc : α → List Value) (h : ∀ x, ∀ u ∈ enc x, u.oneCell' = true) (l : List α) : ∀ u ∈ l.flatMap enc, u.oneCell' = true := by
 intro u hu
 obtain ⟨x, _, hx⟩ := List.mem_flatMap.1 hu
 exact h x u hx
def impl_Place_152.f (l0 : List (S111)) : Option ((List (S111))) := if 0 < l0.length ∧ l0.length * 24 ≤ 140737488355328 then some l0 else none
set_option maxHeartbeats 8000000 in
set_option maxRecDepth 100000 in
theorem impl_Place_152.calls (A0 : Option Addr) (c0 : Nat) (l0 : List (S111)) (r : List (S111)) (w : World) (hr0 : Kd.C k111 w A0 l0.length l0) (hc0 : l0.length ≤ c0) (h : impl_Place_152.f l0 = some r) :
  Calls Try.prog 152 #[.slice A0 l0.length c0] w fun e w' => ∃ v0_ : Value, e = .returned (v0_) ∧ Kd.R k111 111 w' w.heap.size (fun _ => True) v0_ r ∧ Below w.heap.size w w' := by
 unfold impl_Place_152.f at h
 by_cases hl : 0 < l0.length ∧ l0.length * 24 ≤ 140737488355328
 ·rw [if_pos hl] at h
  obtain rfl := Option.some.inj h
  have hm : l0.length ≤ 9223372036854775807 := hr0.2.1
  obtain ⟨b, off, rfl, hc⟩ := h_struct_at z111 enc111 (fun h => k111_open h) hr0 hl.1 (by decide)
  have hi := info111
  obtain ⟨i0, e0, e1⟩ := Option.map_eq_some_iff.1 hi
  simp only [Prod.mk.injEq] at e1
  have hrep := reps_flat enc111 3 (fun _ => rfl) l0
  have hcon := AnyE.slices_Clone Try.laysClone152 i0 _ 3 24 e0 e1.1 e1.2.1 e1.2.2 rfl (by decide) Try.sizeOf111 b off l0.length c0 (l0.flatMap enc111) w hrep.1 (by unfold maxLen; omega) hl.2
   (flat_cells enc111 3 (by decide) (fun _ => rfl) z111 l0 w b off hc) (flat_one enc111 (fun x u hu => by simp only [enc111, List.mem_cons, List.not_mem_nil, or_false] at hu; rcases hu with rfl | rfl | rfl <;> rfl) l0)
  change Calls Try.prog 152 _ _ _ at hcon
  refine hcon.mono ?_
  rintro e w' ⟨v', rfl, ho, -, hb⟩
  exact ⟨v', rfl, ⟨fun _ _ => trivial, _, ho, hrep.imp_ (fun x c hx => by rw [hx]; exact k111_mkM _ _ _ x)⟩, hb⟩
 ·rw [if_neg hl] at h
  cases h

/-! ### impl_takeWord: function 122 -/
def impl_takeWord.l0 : Nat → List (S111) → Int → Int → List (S111) → List Int → List Int → Int → Int → Option ((List (S111)) × List Int)
 | 0, _, _, _, _, _, _, _, _ => none
 | k + 1, x0, x1, x2, x10, x11, x17, x18, x19 => if x19 < x18 then (if 0 ≤ x19 then (if x19 < (x17.length : Int) then (if 0 ≤ (rd x17 x19) then (if (rd x17 x19) < (x0.length : Int) then (if ((rd_T111 x0 (rd x17 x19)).f0) ≤ x1 then (if (rd x17 x19) < (x10.length : Int) then (if x11.length < 17592186044416 then (impl_takeWord.l0 k x0 x1 x2 (x10.set ((rd x17 x19) : Int).toNat (⟨x1, x1, x2⟩ : S111)) (x11 ++ [rd x17 x19]) x17 x18 (wrap64 (x19 + 1))) else (none)) else (none)) else (impl_takeWord.l0 k x0 x1 x2 x10 x11 x17 x18 (wrap64 (x19 + 1)))) else (none)) else (none)) else (none)) else (none)) else (some (x10, x11))
def impl_takeWord.f (k : Nat) (l0 : List (S111)) (a1 : Int) (a2 : Int) (l3 : List Int) : Option ((List (S111)) × List Int) := (impl_Place_152.f l0).bind fun t210 => (impl_takeWord.l0 k l0 a1 a2 t210 (([] : List Int)) l3 (l3.length : Int) 0)
theorem impl_takeWord.mono_l : ∀ k, (∀ y0 y1 y2 y3 y4 y5 y6 y7, LeO (impl_takeWord.l0 k y0 y1 y2 y3 y4 y5 y6 y7) (impl_takeWord.l0 (k + 1) y0 y1 y2 y3 y4 y5 y6 y7))
 | 0 => fun _ _ _ _ _ _ _ _ r h => by simp [impl_takeWord.l0] at h
 | k + 1 => by
  have ih0 := impl_takeWord.mono_l k
  ·intro y0 y1 y2 y3 y4 y5 y6 y7
   unfold impl_takeWord.l0
   repeat' first
   | (with_reducible exact ih0 _ _ _ _ _ _ _ _)
   | (with_reducible exact LeO.refl _)
   | (with_reducible exact LeO.none _)
   | (with_reducible refine LeO.ite ?_ ?_)
   | (with_reducible refine LeO.bind ?_ (fun _ => ?_))
   | exact ih0 _ _ _ _ _ _ _ _
   | exact LeO.none _
   | refine LeO.ite ?_ ?_
   | refine LeO.bind ?_ (fun _ => ?_)
theorem impl_takeWord.mono : ∀ a0 a1 a2 a3 k, LeO (impl_takeWord.f k a0 a1 a2 a3) (impl_takeWord.f (k + 1) a0 a1 a2 a3) := by
 intro a0 a1 a2 a3 k
 have ih0 := impl_takeWord.mono_l k
 unfold impl_takeWord.f
 repeat' first
   | (with_reducible exact ih0 _ _ _ _ _ _ _ _)
   | (with_reducible exact LeO.refl _)
   | (with_reducible exact LeO.none _)
   | (with_reducible refine LeO.ite ?_ ?_)
   | (with_reducible refine LeO.bind ?_ (fun _ => ?_))
   | exact ih0 _ _ _ _ _ _ _ _
   | exact LeO.none _
   | refine LeO.ite ?_ ?_
   | refine LeO.bind ?_ (fun _ => ?_)
set_option maxHeartbeats 8000000 in
set_option maxRecDepth 100000 in
theorem impl_takeWord.calls (k : Nat) (A0 : Option Addr) (c0 : Nat) (l0 : List (S111)) (a1 : Int) (a2 : Int) (A3 : Option Addr) (c3 : Nat) (l3 : List Int) (r1 : List (S111)) (r2 : List Int) (w : World) (hr0 : Kd.C k111 w A0 l0.length l0) (hc0 : l0.length ≤ c0) (hr3 : Kd.C (Kd.int .i64) w A3 l3.length l3) (hc3 : l3.length ≤ c3) (h : impl_takeWord.f k l0 a1 a2 l3 = some (r1, r2)) :
  Calls Try.prog 122 #[.slice A0 l0.length c0, .int .i64 a1, .int .i64 a2, .slice A3 l3.length c3] w fun e w' => ∃ v0_ v1_ : Value, e = .returned (.tuple #[v0_, v1_]) ∧ Kd.R k111 111 w' w.heap.size (fun _ => True) v0_ r1 ∧ Kd.R (Kd.int .i64) 3 w' w.heap.size (fun _ => True) v1_ r2 ∧ Below w.heap.size w w' := by
 have hu111 := Try.underlying111
 have HR0 := Aside0.mk hr0
 have HC0 := Aside0.mk hc0
 clear hr0 hc0
 have HR3 := Aside0.mk hr3
 have HC3 := Aside0.mk hc3
 clear hr3 hc3
 have HB := Aside0.mk (Below.refl w.heap.size w)
 have H : ((impl_Place_152.f l0).bind fun t210 => (impl_takeWord.l0 k l0 a1 a2 t210 (([] : List Int)) l3 (l3.length : Int) 0)) = some (r1, r2) := h
 clear h
 replace H := Option.bind_eq_some_iff.mp H
 obtain ⟨t210, A50, H⟩ := H
 replace H : (impl_takeWord.l0 k l0 a1 a2 t210 (([] : List Int)) l3 (l3.length : Int) 0) = some (r1, r2) := H
 have A5 := Aside0.mk A50
 clear A50
 obtain ⟨y213, hy213⟩ : ∃ y_ : List Int, y_ = (([] : List Int)) := ⟨_, rfl⟩
 replace H : (impl_takeWord.l0 k l0 a1 a2 t210 y213 l3 (l3.length : Int) 0) = some (r1, r2) := by first | (rw [hy213]; with_reducible exact H) | (have H2_ := (Option.bind_some _ _).symm.trans H; rw [hy213]; with_reducible exact H2_) | (have H2_ := (Option.bind_some _ _).symm.trans H; with_reducible exact H2_) | with_reducible exact H | (rw [hy213]; exact H) | exact H
 have Ny213 := Aside0.mk hy213
 clear hy213
 have H' := Aside0.mk H
 clear H
 go_enter Try.func122, Try.ntmps122
 go_wp2_with (first | ((with_reducible refine gate_callee (f := 152) rfl ?_); refine goesL_ (some 15) rfl rfl Try.func152 (by kernel_rfl) rfl #[.slice A0 l0.length c0] rfl (by (try simp only [List.map_toArray, List.map_cons, List.map_nil]); first | done | rfl | (simp only [List.length_drop, List.length_take]; rfl)) ?_; (with_reducible refine (impl_Place_152.calls _ _ l0 t210 _ ?side1 ?side2 A5.out).mono ?_); (case side1 => repeat (first | exact HR0.out | (with_reducible refine Kd.C_alloc ?_ _) | (with_reducible refine Kd.C_drewN ?_ _) | (with_reducible refine Kd.C_drew ?_))); (case side2 => exact HC0.out); rintro e w6 ⟨v211, rfl, ho0, hb⟩; refine ⟨_, rfl, ?_⟩; have n0_ := Aside0.mk (Kd.R_lower ho0 (below_size (by repeat first | exact HB.out | apply below_alloc | apply pw_below_drewN | apply below_drew1))); have n1_ := Aside0.mk (below_step (by repeat first | exact HB.out | apply below_alloc | apply pw_below_drewN | apply below_drew1) hb); clear HB; have HO212 := n0_; have HB := n1_; clear n0_ n1_; (try clear hb); (try clear hb2); (try clear hk); (try clear hi); (try clear ho0)) | ((with_reducible refine gate_dst (N := 16) rfl ?_); refine Kd.R_lit (Kd.int .i64) _ 3 ?hg (N := 16) ?hd (xs := ([] : List Int)) (inner := []) (ok := fun _ => True) (okp := fun _ => True) ?hr ?hp (fun _ hk => hk) trivial (Below.refl _ _) (Nat.le_refl _) (by simp) ?_; (case hd => rfl); (case hg => rfl); (case hr => first | (go_simp; done) | (go_simp; rfl)); (case hp => exact (Reps.none _ _)); intro v214 w7 ho8 hb hg_ hnew_; clear hg_ hnew_; (first | rw [← Ny213.out] at ho8 | (simp only [Int.reduceToNat] at ho8; rw [← Ny213.out] at ho8)); have n0_ := Aside0.mk (Kd.R_below (by (with_reducible repeat (first | apply Kd.R_alloc | apply Kd.R_drewN | apply Kd.R_drew)); exact HO212.out) hb); have n1_ := Aside0.mk (Kd.R_lower ho8 (below_size (by repeat first | exact HB.out | apply below_alloc | apply pw_below_drewN | apply below_drew1))); have n2_ := Aside0.mk (below_step (by repeat first | exact HB.out | apply below_alloc | apply pw_below_drewN | apply below_drew1) hb); clear HO212; clear HB; have HO212 := n0_; have HO215 := n1_; have HB := n2_; clear n0_ n1_ n2_; clear hb ho8))
 go_loopg [11, 19] k (fun kq v11 v19 w' => ∃ (x10_1 : List (S111)) (x11_1 : List Int) (x19_1 : Int), v19 = .int .i64 x19_1 ∧ Aside0 (impl_takeWord.l0 kq l0 a1 a2 x10_1 x11_1 l3 (l3.length : Int) x19_1 = some (r1, r2)) ∧ Aside0 (kq ≤ k) ∧ Aside0 (Kd.R k111 111 w' w.heap.size (fun _ => True) v211 x10_1) ∧ Aside0 (Kd.R (Kd.int .i64) 3 w' w.heap.size (fun _ => True) v11 x11_1) ∧ Aside0 (Below w.heap.size w w'))
 case atStart => exact ⟨(t210), (y213), (0), (by first | rfl | (simp; done) | (simp [*]; done)), H', ⟨Nat.le_refl _⟩, ⟨by (with_reducible repeat (first | apply Kd.R_alloc | apply Kd.R_drewN | apply Kd.R_drew)); exact HO212.out⟩, ⟨by (with_reducible repeat (first | apply Kd.R_alloc | apply Kd.R_drewN | apply Kd.R_drew)); exact HO215.out⟩, ⟨by repeat first | exact HB.out | apply below_alloc | apply pw_below_drewN | apply below_drew1⟩⟩
 case round =>
  clear H'
  try clear c1
  try clear p2
  try clear c3
  obtain ⟨x10_1, x11_1, x19_1, rfl, HA, HK1, HO_10, HO_11, HB⟩ := hrel
  cases gk with
  | zero => exact absurd HA.out (by simp [impl_takeWord.l0])
  | succ k1 =>
   have H := HA.out
   clear HA
   simp only [impl_takeWord.l0] at H
   by_cases c9 : x19_1 < (l3.length : Int)
   ·rw [if_pos c9] at H
    have c9b0 : decide (x19_1 < (l3.length : Int)) = true := decide_eq_true c9
    clear c9
    by_cases c10 : 0 ≤ x19_1
    ·rw [if_pos c10] at H
     have c10b0 : decide (0 ≤ x19_1) = true := decide_eq_true c10
     clear c10
     by_cases c11 : x19_1 < (l3.length : Int)
     ·rw [if_pos c11] at H
      have c11b0 : decide (x19_1 < (l3.length : Int)) = true := decide_eq_true c11
      clear c11
      by_cases c12 : 0 ≤ (rd l3 x19_1)
      ·rw [if_pos c12] at H
       have c12b0 : decide (0 ≤ (rd l3 x19_1)) = true := decide_eq_true c12
       clear c12
       by_cases c13 : (rd l3 x19_1) < (l0.length : Int)
       ·rw [if_pos c13] at H
        have c13b0 : decide ((rd l3 x19_1) < (l0.length : Int)) = true := decide_eq_true c13
        clear c13
        by_cases c14 : ((rd_T111 l0 (rd l3 x19_1)).f0) ≤ a1
        ·rw [if_pos c14] at H
         have c14b0 : decide (((rd_T111 l0 (rd l3 x19_1)).f0) ≤ a1) = true := decide_eq_true c14
         clear c14
         by_cases c15 : (rd l3 x19_1) < (x10_1.length : Int)
         ·rw [if_pos c15] at H
          have c15b0 : decide ((rd l3 x19_1) < (x10_1.length : Int)) = true := decide_eq_true c15
          clear c15
          obtain ⟨y218, hy218⟩ : ∃ y_ : List (S111), y_ = (x10_1.set ((rd l3 x19_1) : Int).toNat (⟨a1, a1, a2⟩ : S111)) := ⟨_, rfl⟩
          replace H : (if x11_1.length < 17592186044416 then (impl_takeWord.l0 k1 l0 a1 a2 y218 (x11_1 ++ [rd l3 x19_1]) l3 (l3.length : Int) (wrap64 (x19_1 + 1))) else (none)) = some (r1, r2) := by first | (rw [hy218]; with_reducible exact H) | (have H2_ := (Option.bind_some _ _).symm.trans H; rw [hy218]; with_reducible exact H2_) | (have H2_ := (Option.bind_some _ _).symm.trans H; with_reducible exact H2_) | with_reducible exact H | (rw [hy218]; exact H) | exact H
          have Ny218 := Aside0.mk hy218
          clear hy218
          by_cases c17 : x11_1.length < 17592186044416
          ·rw [if_pos c17] at H
           have LMc17 := Aside0.mk c17
           clear c17
           obtain ⟨y219, hy219⟩ : ∃ y_ : List Int, y_ = (x11_1 ++ [rd l3 x19_1]) := ⟨_, rfl⟩
           replace H : (impl_takeWord.l0 k1 l0 a1 a2 y218 y219 l3 (l3.length : Int) (wrap64 (x19_1 + 1))) = some (r1, r2) := by first | (rw [hy219]; with_reducible exact H) | (have H2_ := (Option.bind_some _ _).symm.trans H; rw [hy219]; with_reducible exact H2_) | (have H2_ := (Option.bind_some _ _).symm.trans H; with_reducible exact H2_) | with_reducible exact H | (rw [hy219]; exact H) | exact H
           have Ny219 := Aside0.mk hy219
           clear hy219
           have H' := Aside0.mk H
           clear H
           have p216 : 0 ≤ (x19_1 : Int) := of_decide_eq_true (by first | (with_reducible assumption) | assumption)
           have q216 : x19_1 < (l3.length : Int) := of_decide_eq_true (by first | (with_reducible assumption) | assumption)
           obtain ⟨ad216, e216, hx216_0⟩ := Kd.at_int HR3.out x19_1 p216 q216
           cases e216
           replace hx216_0 := (HB.out.cell (World.block_lt_of_cell? w _ hx216_0)).trans hx216_0
           replace p216 := eq_true p216
           replace q216 := eq_true q216
           have p217 : 0 ≤ ((rd l3 x19_1) : Int) := of_decide_eq_true (by first | (with_reducible assumption) | assumption)
           have q217 : (rd l3 x19_1) < (l0.length : Int) := of_decide_eq_true (by first | (with_reducible assumption) | assumption)
           obtain ⟨ad217, e217, hx217_0, hx217_1, hx217_2⟩ := at_T111 HR0.out (rd l3 x19_1) p217 q217
           cases e217
           replace hx217_0 := (HB.out.cell (World.block_lt_of_cell? w _ hx217_0)).trans hx217_0
           replace hx217_1 := (HB.out.cell (World.block_lt_of_cell? w _ hx217_1)).trans hx217_1
           replace hx217_2 := (HB.out.cell (World.block_lt_of_cell? w _ hx217_2)).trans hx217_2
           replace p217 := eq_true p217
           replace q217 := eq_true q217
           have p16 : 0 ≤ ((rd l3 x19_1) : Int) := of_decide_eq_true (by first | (with_reducible assumption) | assumption)
           have q16 : ((rd l3 x19_1) : Int) < ((x10_1.length : Int) : Int) := of_decide_eq_true (by first | (with_reducible assumption) | assumption)
           obtain ⟨go16, co16, eo16, gb16, gl16, cl16, HG16⟩ := Kd.R_form HO_10.out (by omega)
           (first | cases eo16 | (injection eo16 with ea_ en_ ec_; (first | subst ea_ | (injection ea_ with ea_; subst ea_)); subst ec_; clear en_))
           have GB16 := Aside0.mk gb16
           have GG16 := Aside0.mk HG16
           clear gb16 gl16 HG16
           obtain ⟨ce16, hcl16, hM16, hcc16, hfr16⟩ := Kd.R_elem HO_10.out z111 ((rd l3 x19_1) : Int) p16 q16
           obtain rfl := k111_openM hM16
           have hx16_0 : wr.cell? ⟨go16, ((rd l3 x19_1) : Int).toNat * 3, none⟩ = some (.int .i64 ((rd_T111 x10_1 (rd l3 x19_1)).f0)) := hcc16 0 _ rfl
           have hx16_1 : wr.cell? ⟨go16, ((rd l3 x19_1) : Int).toNat * 3 + 1, none⟩ = some (.int .i64 ((rd_T111 x10_1 (rd l3 x19_1)).f1)) := hcc16 1 _ rfl
           have hx16_2 : wr.cell? ⟨go16, ((rd l3 x19_1) : Int).toNat * 3 + 2, none⟩ = some (.int .i64 ((rd_T111 x10_1 (rd l3 x19_1)).f2)) := hcc16 2 _ rfl
           have hf16_0 : wr.frozen? ⟨go16, ((rd l3 x19_1) : Int).toNat * 3, none⟩ = false := hfr16 0
           have hf16_1 : wr.frozen? ⟨go16, ((rd l3 x19_1) : Int).toNat * 3 + 1, none⟩ = false := hfr16 1
           have hf16_2 : wr.frozen? ⟨go16, ((rd l3 x19_1) : Int).toNat * 3 + 2, none⟩ = false := hfr16 2
           clear hcl16 hcc16 hfr16; (try clear hM16)
           replace p16 := eq_true p16
           replace q16 := eq_true q16
           have HX18 := Aside0.mk (show Kd.R k111 111 wr w.heap.size (fun _ => True) (.slice (some ⟨go16, 0, none⟩) x10_1.length co16) x10_1 from (by (with_reducible repeat (first | apply Kd.R_alloc | apply Kd.R_drewN | apply Kd.R_drew)); exact HO_10.out))
           obtain ⟨ce18, hcl18, hM18, hcc18, hfr18⟩ := Kd.R_elem HX18.out z111 ((rd l3 x19_1) : Int) (of_decide_eq_true (by first | (with_reducible assumption) | assumption)) (by have h_ : ((rd l3 x19_1) : Int) < ((x10_1.length : Int) : Int) := of_decide_eq_true (by first | (with_reducible assumption) | assumption); first | exact h_ | (have e_ := (Kd.R_reads' HO_10.out).1; omega) | simpa using h_)
           obtain rfl := k111_openM hM18
           have HP18 := Kd.R_seg HX18.out ((rd l3 x19_1) : Int) (of_decide_eq_true (by first | (with_reducible assumption) | assumption)) (by have h_ : ((rd l3 x19_1) : Int) < ((x10_1.length : Int) : Int) := of_decide_eq_true (by first | (with_reducible assumption) | assumption); first | exact h_ | (have e_ := (Kd.R_reads' HO_10.out).1; omega) | simpa using h_) (seg := [.int .i64 a1, .int .i64 a1, .int .i64 a2]) (j := 0) hcl18 hcc18 (show 3 ≤ 3 from by decide) (x' := (⟨a1, a1, a2⟩ : S111)) (k111_mkM _ _ _ (⟨a1, a1, a2⟩ : S111) ) (fun _ hk => hk)
           have hx18_0 := hcc18 0 _ rfl
           (try simp only [show (k111).sz = 3 from rfl, Nat.mul_one, Nat.add_zero] at hx18_0)
           have hf18_0 := hfr18 0
           (try simp only [show (k111).sz = 3 from rfl, Nat.mul_one, Nat.add_zero] at hf18_0)
           have hx18_1 := hcc18 1 _ rfl
           (try simp only [show (k111).sz = 3 from rfl, Nat.mul_one, Nat.add_zero] at hx18_1)
           have hf18_1 := hfr18 1
           (try simp only [show (k111).sz = 3 from rfl, Nat.mul_one, Nat.add_zero] at hf18_1)
           have hx18_2 := hcc18 2 _ rfl
           (try simp only [show (k111).sz = 3 from rfl, Nat.mul_one, Nat.add_zero] at hx18_2)
           have hf18_2 := hfr18 2
           (try simp only [show (k111).sz = 3 from rfl, Nat.mul_one, Nat.add_zero] at hf18_2)
           clear hcl18 hcc18 hfr18; (try clear hM18)
           go_wp2_with (first | ((with_reducible refine gate_store (t := 111) (p := 36) rfl ?_); refine store_event (t := 111) (p := 36) (v := ?vo_w19) (w1 := (((wr.setCell ⟨go16, ((rd l3 x19_1) : Int).toNat * 3, none⟩ (.int .i64 a1)).setCell ⟨go16, ((rd l3 x19_1) : Int).toNat * 3 + 1, none⟩ (.int .i64 a1)).setCell ⟨go16, ((rd l3 x19_1) : Int).toNat * 3 + 2, none⟩ (.int .i64 a2))) ?hg ?ho ?hn ?hr ?_; (case ho => rfl); (case hg => rfl); (case hn => rfl); (case hr => first | (go_simp; done) | (go_simp; rfl)); intro w19 hw; have hg : wr.grownBy w19 (some go16) := (by rw [hw]; exact HP18.2); have hp_ : Kd.R k111 111 w19 w.heap.size (fun _ => True) (.slice (some ⟨go16, 0, none⟩) x10_1.length co16) y218 := (by rw [hw, Ny218.out]; exact HP18.1); clear HP18; have n0_ := Aside0.mk (hp_); have n1_ := Aside0.mk (Kd.R_over' (v := (.slice (some ⟨go16, 0, none⟩) x10_1.length co16)) (by (with_reducible repeat (first | apply Kd.R_alloc | apply Kd.R_drewN | apply Kd.R_drew)); exact HO_11.out) (Kd.R_typed HO_10.out) (by decide) hg); have n2_ := Aside0.mk ((by rw [hw]; exact below_set (below_set (below_set (HB.out) GB16.out) GB16.out) GB16.out : Below w.heap.size w w19)); clear HO_10; clear HO_11; clear HB; have HO_10 := n0_; have HO_11 := n1_; have HB := n2_; clear n0_ n1_ n2_; clear hg hw hp_) | ((with_reducible refine gate_builtin (b := .append) (xs := #[.tmp 37, .tmp 39]) rfl ?_); at_builtin; refine Kd.R_append (Kd.int .i64) (w0 := w) w.heap.size rfl (.tmp 37) (.tmp 39) 28 3 (.int .i64 0) 8 rfl Try.underlying28 info3 rfl (by decide) (by omega) u11 x11_1 (rd l3 x19_1) [.int .i64 (rd l3 x19_1)] (fun _ => True) (fun _ => False) rfl rfl ?aP (fun _ hk => hk.elim) ?aF ?aO ?aB ?aS ?aL ?_; (case aP => exact rfl); (case aB => exact (by repeat first | exact HB.out | apply below_alloc | apply pw_below_drewN | apply below_drew1)); (case aF => exact (fun _ _ => trivial)); (case aO => exact (by (with_reducible repeat (first | apply Kd.R_alloc | apply Kd.R_drewN | apply Kd.R_drew)); exact HO_11.out)); (case aS => exact (below_size (by repeat first | exact HB.out | apply below_alloc | apply pw_below_drewN | apply below_drew1))); (case aL => have := LMc17.out; omega); intro v220 w20 ho hb hg hat; rw [← Ny219.out] at ho; have n0_ := Aside0.mk (Kd.R_over' (by (with_reducible repeat (first | apply Kd.R_alloc | apply Kd.R_drewN | apply Kd.R_drew)); exact HO_10.out) (Kd.R_typed (by (with_reducible repeat (first | apply Kd.R_alloc | apply Kd.R_drewN | apply Kd.R_drew)); exact HO_11.out)) (by decide) hg); have n1_ := Aside0.mk (hb); have n2_ := Aside0.mk (ho); clear HO_10; clear HB; clear HO_11; have HO_10 := n0_; have HB := n1_; have HO221 := n2_; clear n0_ n1_ n2_; clear ho hb hg hat))
           go_roundg k1
           case measure => have := HK1.out; omega
           case rel => exact ⟨(y218), (y219), (wrap64 (x19_1 + 1)), (by first | rfl | (simp; done) | (simp [*]; done)), H', ⟨by have := HK1.out; omega⟩, ⟨by (with_reducible repeat (first | apply Kd.R_alloc | apply Kd.R_drewN | apply Kd.R_drew)); exact HO_10.out⟩, ⟨by (with_reducible repeat (first | apply Kd.R_alloc | apply Kd.R_drewN | apply Kd.R_drew)); exact HO221.out⟩, ⟨by repeat first | exact HB.out | apply below_alloc | apply pw_below_drewN | apply below_drew1⟩⟩
          ·rw [if_neg c17] at H
           exact absurd H (by simp)
         ·rw [if_neg c15] at H
          exact absurd H (by simp)
        ·rw [if_neg c14] at H
         have c14b0 : decide (((rd_T111 l0 (rd l3 x19_1)).f0) ≤ a1) = false := decide_eq_false c14
         clear c14
         have H' := Aside0.mk H
         clear H
         have p216 : 0 ≤ (x19_1 : Int) := of_decide_eq_true (by first | (with_reducible assumption) | assumption)
         have q216 : x19_1 < (l3.length : Int) := of_decide_eq_true (by first | (with_reducible assumption) | assumption)
         obtain ⟨ad216, e216, hx216_0⟩ := Kd.at_int HR3.out x19_1 p216 q216
         cases e216
         replace hx216_0 := (HB.out.cell (World.block_lt_of_cell? w _ hx216_0)).trans hx216_0
         replace p216 := eq_true p216
         replace q216 := eq_true q216
         have p217 : 0 ≤ ((rd l3 x19_1) : Int) := of_decide_eq_true (by first | (with_reducible assumption) | assumption)
         have q217 : (rd l3 x19_1) < (l0.length : Int) := of_decide_eq_true (by first | (with_reducible assumption) | assumption)
         obtain ⟨ad217, e217, hx217_0, hx217_1, hx217_2⟩ := at_T111 HR0.out (rd l3 x19_1) p217 q217
         cases e217
         replace hx217_0 := (HB.out.cell (World.block_lt_of_cell? w _ hx217_0)).trans hx217_0
         replace hx217_1 := (HB.out.cell (World.block_lt_of_cell? w _ hx217_1)).trans hx217_1
         replace hx217_2 := (HB.out.cell (World.block_lt_of_cell? w _ hx217_2)).trans hx217_2
         replace p217 := eq_true p217
         replace q217 := eq_true q217
         go_wp2
         go_roundg k1
         case measure => have := HK1.out; omega
         case rel => exact ⟨(x10_1), (x11_1), (wrap64 (x19_1 + 1)), (by first | rfl | (simp; done) | (simp [*]; done)), H', ⟨by have := HK1.out; omega⟩, ⟨by (with_reducible repeat (first | apply Kd.R_alloc | apply Kd.R_drewN | apply Kd.R_drew)); exact HO_10.out⟩, ⟨by (with_reducible repeat (first | apply Kd.R_alloc | apply Kd.R_drewN | apply Kd.R_drew)); exact HO_11.out⟩, ⟨by repeat first | exact HB.out | apply below_alloc | apply pw_below_drewN | apply below_drew1⟩⟩
       ·rw [if_neg c13] at H
        exact absurd H (by simp)
      ·rw [if_neg c12] at H
       exact absurd H (by simp)
     ·rw [if_neg c11] at H
      exact absurd H (by simp)
    ·rw [if_neg c10] at H
     exact absurd H (by simp)
   ·rw [if_neg c9] at H
    have c9b0 : decide (x19_1 < (l3.length : Int)) = false := decide_eq_false c9
    clear c9
    simp only [Option.some.injEq, Prod.mk.injEq] at H
    obtain ⟨rfl, rfl⟩ := H
    go_wp2
    go_ret2
    exact ⟨_, _, by first | rfl | (simp [errW_none, errW_some] <;> rfl) | (simp [*, errW_none, errW_some] <;> rfl), by (with_reducible repeat (first | apply Kd.R_alloc | apply Kd.R_drewN | apply Kd.R_drew)); exact HO_10.out, by (with_reducible repeat (first | apply Kd.R_alloc | apply Kd.R_drewN | apply Kd.R_drew)); exact HO_11.out, by repeat first | exact HB.out | apply below_alloc | apply pw_below_drewN | apply below_drew1⟩

/-! ### impl_askPlaces: function 124 -/
def impl_askPlaces.l0 : Nat → List (S111) → Int → List (S111) → Int → List Int → Int → Int → Int → Int → Int → Option ((List (S111)) × Int × Bool)
 | 0, _, _, _, _, _, _, _, _, _, _ => none
 | k + 1, x0, x1, x9, x10, x17, x18, x19, x226000, x226001, x226002 => if x19 < x18 then (if 0 ≤ x19 then (if x19 < (x17.length : Int) then (if 0 ≤ (rd x17 x19) then (if (rd x17 x19) < (x0.length : Int) then (if ((rd_T111 x0 (rd x17 x19)).f0) ≥ x1 then (impl_askPlaces.l0 k x0 x1 x9 x10 x17 x18 (wrap64 (x19 + 1)) x226000 x226001 x226002) else (if (rd x17 x19) < (x9.length : Int) then ((some (x9.set ((rd x17 x19) : Int).toNat (⟨x1, (rd_T111 x9 (rd x17 x19)).f1, (rd_T111 x9 (rd x17 x19)).f2⟩ : S111) : List (S111))).bind fun y229 => (if ((rd_T111 x0 (rd x17 x19)).f1) > x226001 then (impl_askPlaces.l0 k x0 x1 y229 (wrap64 (x10 + 1)) x17 x18 (wrap64 (x19 + 1)) ((rd_T111 x0 (rd x17 x19)).f0) ((rd_T111 x0 (rd x17 x19)).f1) ((rd_T111 x0 (rd x17 x19)).f2)) else (impl_askPlaces.l0 k x0 x1 y229 (wrap64 (x10 + 1)) x17 x18 (wrap64 (x19 + 1)) x226000 x226001 x226002))) else (none))) else (none)) else (none)) else (none)) else (none)) else ((impl_slow.f (x0.length : Int)).bind fun t226 => (if x10 < t226 then (some (x9, 0, false)) else (some (x9, x226002, true))))
def impl_askPlaces.f (k : Nat) (l0 : List (S111)) (a1 : Int) (l2 : List Int) : Option ((List (S111)) × Int × Bool) := (impl_Place_152.f l0).bind fun t222 => (impl_askPlaces.l0 k l0 a1 t222 0 l2 (l2.length : Int) 0 0 0 0)
theorem impl_askPlaces.mono_l : ∀ k, (∀ y0 y1 y2 y3 y4 y5 y6 y7 y8 y9, LeO (impl_askPlaces.l0 k y0 y1 y2 y3 y4 y5 y6 y7 y8 y9) (impl_askPlaces.l0 (k + 1) y0 y1 y2 y3 y4 y5 y6 y7 y8 y9))
 | 0 => fun _ _ _ _ _ _ _ _ _ _ r h => by simp [impl_askPlaces.l0] at h
 | k + 1 => by
  have ih0 := impl_askPlaces.mono_l k
  ·intro y0 y1 y2 y3 y4 y5 y6 y7 y8 y9
   unfold impl_askPlaces.l0
   repeat' first
   | (with_reducible exact ih0 _ _ _ _ _ _ _ _ _ _)
   | (with_reducible exact LeO.refl _)
   | (with_reducible exact LeO.none _)
   | (with_reducible refine LeO.ite ?_ ?_)
   | (with_reducible refine LeO.bind ?_ (fun _ => ?_))
   | exact ih0 _ _ _ _ _ _ _ _ _ _
   | exact LeO.none _
   | refine LeO.ite ?_ ?_
   | refine LeO.bind ?_ (fun _ => ?_)
theorem impl_askPlaces.mono : ∀ a0 a1 a2 k, LeO (impl_askPlaces.f k a0 a1 a2) (impl_askPlaces.f (k + 1) a0 a1 a2) := by
 intro a0 a1 a2 k
 have ih0 := impl_askPlaces.mono_l k
 unfold impl_askPlaces.f
 repeat' first
   | (with_reducible exact ih0 _ _ _ _ _ _ _ _ _ _)
   | (with_reducible exact LeO.refl _)
   | (with_reducible exact LeO.none _)
   | (with_reducible refine LeO.ite ?_ ?_)
   | (with_reducible refine LeO.bind ?_ (fun _ => ?_))
   | exact ih0 _ _ _ _ _ _ _ _ _ _
   | exact LeO.none _
   | refine LeO.ite ?_ ?_
   | refine LeO.bind ?_ (fun _ => ?_)
set_option maxHeartbeats 8000000 in
set_option maxRecDepth 100000 in
theorem impl_askPlaces.calls (k : Nat) (A0 : Option Addr) (c0 : Nat) (l0 : List (S111)) (a1 : Int) (A2 : Option Addr) (c2 : Nat) (l2 : List Int) (r1 : List (S111)) (r2 : Int) (r3 : Bool) (w : World) (hr0 : Kd.C k111 w A0 l0.length l0) (hc0 : l0.length ≤ c0) (hr2 : Kd.C (Kd.int .i64) w A2 l2.length l2) (hc2 : l2.length ≤ c2) (h : impl_askPlaces.f k l0 a1 l2 = some (r1, r2, r3)) :
  Calls Try.prog 124 #[.slice A0 l0.length c0, .int .i64 a1, .slice A2 l2.length c2] w fun e w' => ∃ v0_ : Value, e = .returned (.tuple #[v0_, .int .i64 r2, .bool r3]) ∧ Kd.R k111 111 w' w.heap.size (fun _ => True) v0_ r1 ∧ Below w.heap.size w w' := by
 have hu111 := Try.underlying111
 have HR0 := Aside0.mk hr0
 have HC0 := Aside0.mk hc0
 clear hr0 hc0
 have HR2 := Aside0.mk hr2
 have HC2 := Aside0.mk hc2
 clear hr2 hc2
 have HB := Aside0.mk (Below.refl w.heap.size w)
 have H : ((impl_Place_152.f l0).bind fun t222 => (impl_askPlaces.l0 k l0 a1 t222 0 l2 (l2.length : Int) 0 0 0 0)) = some (r1, r2, r3) := h
 clear h
 replace H := Option.bind_eq_some_iff.mp H
 obtain ⟨t222, A40, H⟩ := H
 replace H : (impl_askPlaces.l0 k l0 a1 t222 0 l2 (l2.length : Int) 0 0 0 0) = some (r1, r2, r3) := H
 have A4 := Aside0.mk A40
 clear A40
 have H' := Aside0.mk H
 clear H
 go_enter Try.func124, Try.ntmps124
 go_wp2_with (first | (go_at_call 152; (with_reducible refine (impl_Place_152.calls _ _ l0 t222 _ ?side1 ?side2 A4.out).mono ?_); (case side1 => repeat (first | exact HR0.out | (with_reducible refine Kd.C_alloc ?_ _) | (with_reducible refine Kd.C_drewN ?_ _) | (with_reducible refine Kd.C_drew ?_))); (case side2 => exact HC0.out); rintro e w5 ⟨v223, rfl, ho0, hb⟩; have n0_ := Aside0.mk (Kd.R_lower ho0 (below_size (by repeat first | exact HB.out | apply below_alloc | apply pw_below_drewN | apply below_drew1))); have n1_ := Aside0.mk (below_step (by repeat first | exact HB.out | apply below_alloc | apply pw_below_drewN | apply below_drew1) hb); clear HB; have HO224 := n0_; have HB := n1_; clear n0_ n1_; (try clear hb); (try clear hb2); (try clear hk); (try clear hi); (try clear ho0)) | ((with_reducible refine gate_dst (N := 11) rfl ?_); refine box_event ?hg (N := 11) ?hd (cs := #[.int .i64 0, .int .i64 0, .int .i64 0]) (t := 111) ?hr ?_; (case hd => rfl); (case hg => rfl); (case hr => first | (go_simp; done) | (go_simp; rfl)); intro gb225 hg w6 hbox hb; have n0_ := Aside0.mk (Kd.R_below (Kd.R_elderB (by (with_reducible repeat (first | apply Kd.R_alloc | apply Kd.R_drewN | apply Kd.R_drew)); exact HO224.out) gb225 (Nat.le_of_eq hg.symm)) hb); have n1_ := Aside0.mk (below_step (by repeat first | exact HB.out | apply below_alloc | apply pw_below_drewN | apply below_drew1) hb); have n2_ := Aside0.mk (hbox); have n3_ := Aside0.mk ((by rw [hg]; exact (below_size (by repeat first | exact HB.out | apply below_alloc | apply pw_below_drewN | apply below_drew1)) : w.heap.size ≤ gb225)); have n4_ := Aside0.mk ((by rw [hg]; exact (below_size (by repeat first | exact HB.out | apply below_alloc | apply pw_below_drewN | apply below_drew1)) : w.heap.size ≤ gb225)); clear HO224; clear HB; have HO224 := n0_; have HB := n1_; have BK225 := n2_; have GW225 := n3_; have GE225 := n4_; clear n0_ n1_ n2_ n3_ n4_; clear hb hbox hg; have hcz7_0 : w6.cell? ⟨gb225, 0, none⟩ = some (.int .i64 0) := (blk_cell BK225.out 0).trans rfl; have hcz7_1 : w6.cell? ⟨gb225, 1, none⟩ = some (.int .i64 0) := (blk_cell BK225.out 1).trans rfl; have hcz7_2 : w6.cell? ⟨gb225, 2, none⟩ = some (.int .i64 0) := (blk_cell BK225.out 2).trans rfl; have hfz7_0 := blk_frozen BK225.out 0; have hfz7_1 := blk_frozen BK225.out 1; have hfz7_2 := blk_frozen BK225.out 2))
 repeat (go_quiet (first | (go_at_call 152; (with_reducible refine (impl_Place_152.calls _ _ l0 t222 _ ?side1 ?side2 A4.out).mono ?_); (case side1 => repeat (first | exact HR0.out | (with_reducible refine Kd.C_alloc ?_ _) | (with_reducible refine Kd.C_drewN ?_ _) | (with_reducible refine Kd.C_drew ?_))); (case side2 => exact HC0.out); rintro e w5 ⟨v223, rfl, ho0, hb⟩; have n0_ := Aside0.mk (Kd.R_lower ho0 (below_size (by repeat first | exact HB.out | apply below_alloc | apply pw_below_drewN | apply below_drew1))); have n1_ := Aside0.mk (below_step (by repeat first | exact HB.out | apply below_alloc | apply pw_below_drewN | apply below_drew1) hb); clear HB; have HO224 := n0_; have HB := n1_; clear n0_ n1_; (try clear hb); (try clear hb2); (try clear hk); (try clear hi); (try clear ho0)) | ((with_reducible refine gate_dst (N := 11) rfl ?_); refine box_event ?hg (N := 11) ?hd (cs := #[.int .i64 0, .int .i64 0, .int .i64 0]) (t := 111) ?hr ?_; (case hd => rfl); (case hg => rfl); (case hr => first | (go_simp; done) | (go_simp; rfl)); intro gb225 hg w6 hbox hb; have n0_ := Aside0.mk (Kd.R_below (Kd.R_elderB (by (with_reducible repeat (first | apply Kd.R_alloc | apply Kd.R_drewN | apply Kd.R_drew)); exact HO224.out) gb225 (Nat.le_of_eq hg.symm)) hb); have n1_ := Aside0.mk (below_step (by repeat first | exact HB.out | apply below_alloc | apply pw_below_drewN | apply below_drew1) hb); have n2_ := Aside0.mk (hbox); have n3_ := Aside0.mk ((by rw [hg]; exact (below_size (by repeat first | exact HB.out | apply below_alloc | apply pw_below_drewN | apply below_drew1)) : w.heap.size ≤ gb225)); have n4_ := Aside0.mk ((by rw [hg]; exact (below_size (by repeat first | exact HB.out | apply below_alloc | apply pw_below_drewN | apply below_drew1)) : w.heap.size ≤ gb225)); clear HO224; clear HB; have HO224 := n0_; have HB := n1_; have BK225 := n2_; have GW225 := n3_; have GE225 := n4_; clear n0_ n1_ n2_ n3_ n4_; clear hb hbox hg; have hcz7_0 : w6.cell? ⟨gb225, 0, none⟩ = some (.int .i64 0) := (blk_cell BK225.out 0).trans rfl; have hcz7_1 : w6.cell? ⟨gb225, 1, none⟩ = some (.int .i64 0) := (blk_cell BK225.out 1).trans rfl; have hcz7_2 : w6.cell? ⟨gb225, 2, none⟩ = some (.int .i64 0) := (blk_cell BK225.out 2).trans rfl; have hfz7_0 := blk_frozen BK225.out 0; have hfz7_1 := blk_frozen BK225.out 1; have hfz7_2 := blk_frozen BK225.out 2)); try go_wp2_with (first | (go_at_call 152; (with_reducible refine (impl_Place_152.calls _ _ l0 t222 _ ?side1 ?side2 A4.out).mono ?_); (case side1 => repeat (first | exact HR0.out | (with_reducible refine Kd.C_alloc ?_ _) | (with_reducible refine Kd.C_drewN ?_ _) | (with_reducible refine Kd.C_drew ?_))); (case side2 => exact HC0.out); rintro e w5 ⟨v223, rfl, ho0, hb⟩; have n0_ := Aside0.mk (Kd.R_lower ho0 (below_size (by repeat first | exact HB.out | apply below_alloc | apply pw_below_drewN | apply below_drew1))); have n1_ := Aside0.mk (below_step (by repeat first | exact HB.out | apply below_alloc | apply pw_below_drewN | apply below_drew1) hb); clear HB; have HO224 := n0_; have HB := n1_; clear n0_ n1_; (try clear hb); (try clear hb2); (try clear hk); (try clear hi); (try clear ho0)) | ((with_reducible refine gate_dst (N := 11) rfl ?_); refine box_event ?hg (N := 11) ?hd (cs := #[.int .i64 0, .int .i64 0, .int .i64 0]) (t := 111) ?hr ?_; (case hd => rfl); (case hg => rfl); (case hr => first | (go_simp; done) | (go_simp; rfl)); intro gb225 hg w6 hbox hb; have n0_ := Aside0.mk (Kd.R_below (Kd.R_elderB (by (with_reducible repeat (first | apply Kd.R_alloc | apply Kd.R_drewN | apply Kd.R_drew)); exact HO224.out) gb225 (Nat.le_of_eq hg.symm)) hb); have n1_ := Aside0.mk (below_step (by repeat first | exact HB.out | apply below_alloc | apply pw_below_drewN | apply below_drew1) hb); have n2_ := Aside0.mk (hbox); have n3_ := Aside0.mk ((by rw [hg]; exact (below_size (by repeat first | exact HB.out | apply below_alloc | apply pw_below_drewN | apply below_drew1)) : w.heap.size ≤ gb225)); have n4_ := Aside0.mk ((by rw [hg]; exact (below_size (by repeat first | exact HB.out | apply below_alloc | apply pw_below_drewN | apply below_drew1)) : w.heap.size ≤ gb225)); clear HO224; clear HB; have HO224 := n0_; have HB := n1_; have BK225 := n2_; have GW225 := n3_; have GE225 := n4_; clear n0_ n1_ n2_ n3_ n4_; clear hb hbox hg; have hcz7_0 : w6.cell? ⟨gb225, 0, none⟩ = some (.int .i64 0) := (blk_cell BK225.out 0).trans rfl; have hcz7_1 : w6.cell? ⟨gb225, 1, none⟩ = some (.int .i64 0) := (blk_cell BK225.out 1).trans rfl; have hcz7_2 : w6.cell? ⟨gb225, 2, none⟩ = some (.int .i64 0) := (blk_cell BK225.out 2).trans rfl; have hfz7_0 := blk_frozen BK225.out 0; have hfz7_1 := blk_frozen BK225.out 1; have hfz7_2 := blk_frozen BK225.out 2)))
 go_loopg [10, 19] k (fun kq v10 v19 w' => ∃ (x9_1 : List (S111)) (x10_1 : Int) (x19_1 : Int) (x226000_1 : Int) (x226001_1 : Int) (x226002_1 : Int), v10 = .int .i64 x10_1 ∧ v19 = .int .i64 x19_1 ∧ Aside0 (impl_askPlaces.l0 kq l0 a1 x9_1 x10_1 l2 (l2.length : Int) x19_1 x226000_1 x226001_1 x226002_1 = some (r1, r2, r3)) ∧ Aside0 (kq ≤ k) ∧ Aside0 (Kd.R k111 111 w' w.heap.size (fun k_ => k_ ≠ gb225) v223 x9_1) ∧ Aside0 (w'.heap[gb225]? = some (.cells #[.int .i64 x226000_1, .int .i64 x226001_1, .int .i64 x226002_1] 111 (0, 0))) ∧ Aside0 (Below w.heap.size w w'))
 case atStart => exact ⟨(t222), (0), (0), (0), (0), (0), (by first | rfl | (simp; done) | (simp [*]; done)), (by first | rfl | (simp; done) | (simp [*]; done)), H', ⟨Nat.le_refl _⟩, ⟨by (with_reducible repeat (first | apply Kd.R_alloc | apply Kd.R_drewN | apply Kd.R_drew)); exact Kd.R_mono (Kd.R_far (p := ⟨gb225, 2, none⟩) (Kd.R_far (p := ⟨gb225, 1, none⟩) (Kd.R_far (p := ⟨gb225, 0, none⟩) (Kd.R_mono HO224.out (fun k_ hk => (⟨hk, hk.2⟩ : _ ∧ k_ ≠ gb225))) (fun _ hk => hk.2) (.int .i64 0)) (fun _ hk => hk.2) (.int .i64 0)) (fun _ hk => hk.2) (.int .i64 0)) (fun _ hk => hk.1.2)⟩, ⟨by (with_reducible repeat (first | refine blk_drewN ?_ _ | refine blk_drew ?_ | refine blk_alloc ?_ _)); refine blk_put (cs := #[.int .i64 0, .int .i64 0, .int .i64 0]) ?_ 2 _ rfl; (with_reducible repeat (first | refine blk_drewN ?_ _ | refine blk_drew ?_ | refine blk_alloc ?_ _)); refine blk_put (cs := #[.int .i64 0, .int .i64 0, .int .i64 0]) ?_ 1 _ rfl; (with_reducible repeat (first | refine blk_drewN ?_ _ | refine blk_drew ?_ | refine blk_alloc ?_ _)); refine blk_put (cs := #[.int .i64 0, .int .i64 0, .int .i64 0]) ?_ 0 _ rfl; (with_reducible repeat (first | refine blk_drewN ?_ _ | refine blk_drew ?_ | refine blk_alloc ?_ _)); exact BK225.out⟩, ⟨by repeat (first | (with_reducible first | exact HB.out | apply below_alloc | apply pw_below_drewN | apply below_drew1 | refine below_set ?_ GE225.out) | exact HB.out)⟩⟩
 case round =>
  clear H'
  try clear c1
  try clear c2
  try clear p2
  try clear hcz7_0
  try clear hcz7_1
  try clear hcz7_2
  try clear hfz7_0
  try clear hfz7_1
  try clear hfz7_2
  obtain ⟨x9_1, x10_1, x19_1, x226000_1, x226001_1, x226002_1, rfl, rfl, HA, HK1, HO_9, BK225, HB⟩ := hrel
  cases gk with
  | zero => exact absurd HA.out (by simp [impl_askPlaces.l0])
  | succ k1 =>
   have H := HA.out
   clear HA
   simp only [impl_askPlaces.l0] at H
   by_cases c8 : x19_1 < (l2.length : Int)
   ·rw [if_pos c8] at H
    have c8b0 : decide (x19_1 < (l2.length : Int)) = true := decide_eq_true c8
    clear c8
    by_cases c9 : 0 ≤ x19_1
    ·rw [if_pos c9] at H
     have c9b0 : decide (0 ≤ x19_1) = true := decide_eq_true c9
     clear c9
     by_cases c10 : x19_1 < (l2.length : Int)
     ·rw [if_pos c10] at H
      have c10b0 : decide (x19_1 < (l2.length : Int)) = true := decide_eq_true c10
      clear c10
      by_cases c11 : 0 ≤ (rd l2 x19_1)
      ·rw [if_pos c11] at H
       have c11b0 : decide (0 ≤ (rd l2 x19_1)) = true := decide_eq_true c11
       clear c11
       by_cases c12 : (rd l2 x19_1) < (l0.length : Int)
       ·rw [if_pos c12] at H
        have c12b0 : decide ((rd l2 x19_1) < (l0.length : Int)) = true := decide_eq_true c12
        clear c12
        by_cases c13 : ((rd_T111 l0 (rd l2 x19_1)).f0) ≥ a1
        ·rw [if_pos c13] at H
         have c13b0 : decide (a1 ≤ ((rd_T111 l0 (rd l2 x19_1)).f0)) = true := decide_eq_true c13
         clear c13
         have H' := Aside0.mk H
         clear H
         have p227 : 0 ≤ (x19_1 : Int) := of_decide_eq_true (by first | (with_reducible assumption) | assumption)
         have q227 : x19_1 < (l2.length : Int) := of_decide_eq_true (by first | (with_reducible assumption) | assumption)
         obtain ⟨ad227, e227, hx227_0⟩ := Kd.at_int HR2.out x19_1 p227 q227
         cases e227
         replace hx227_0 := (HB.out.cell (World.block_lt_of_cell? w _ hx227_0)).trans hx227_0
         replace p227 := eq_true p227
         replace q227 := eq_true q227
         have p228 : 0 ≤ ((rd l2 x19_1) : Int) := of_decide_eq_true (by first | (with_reducible assumption) | assumption)
         have q228 : (rd l2 x19_1) < (l0.length : Int) := of_decide_eq_true (by first | (with_reducible assumption) | assumption)
         obtain ⟨ad228, e228, hx228_0, hx228_1, hx228_2⟩ := at_T111 HR0.out (rd l2 x19_1) p228 q228
         cases e228
         replace hx228_0 := (HB.out.cell (World.block_lt_of_cell? w _ hx228_0)).trans hx228_0
         replace hx228_1 := (HB.out.cell (World.block_lt_of_cell? w _ hx228_1)).trans hx228_1
         replace hx228_2 := (HB.out.cell (World.block_lt_of_cell? w _ hx228_2)).trans hx228_2
         replace p228 := eq_true p228
         replace q228 := eq_true q228
         go_wp2
         repeat (go_quiet (fail); try go_wp2)
         go_roundg k1
         case measure => have := HK1.out; omega
         case rel => exact ⟨(x9_1), (x10_1), (wrap64 (x19_1 + 1)), (x226000_1), (x226001_1), (x226002_1), (by first | rfl | (simp; done) | (simp [*]; done)), (by first | rfl | (simp; done) | (simp [*]; done)), H', ⟨by have := HK1.out; omega⟩, ⟨by (with_reducible repeat (first | apply Kd.R_alloc | apply Kd.R_drewN | apply Kd.R_drew)); exact HO_9.out⟩, ⟨by (with_reducible repeat (first | refine blk_drewN ?_ _ | refine blk_drew ?_ | refine blk_alloc ?_ _)); exact BK225.out⟩, ⟨by repeat (first | (with_reducible first | exact HB.out | apply below_alloc | apply pw_below_drewN | apply below_drew1 | refine below_set ?_ GE225.out) | exact HB.out)⟩⟩
        ·rw [if_neg c13] at H
         have c13b0 : decide (a1 ≤ ((rd_T111 l0 (rd l2 x19_1)).f0)) = false := decide_eq_false c13
         clear c13
         by_cases c14 : (rd l2 x19_1) < (x9_1.length : Int)
         ·rw [if_pos c14] at H
          have c14b0 : decide ((rd l2 x19_1) < (x9_1.length : Int)) = true := decide_eq_true c14
          clear c14
          obtain ⟨y229, hy229⟩ : ∃ y_ : List (S111), y_ = (x9_1.set ((rd l2 x19_1) : Int).toNat (⟨a1, (rd_T111 x9_1 (rd l2 x19_1)).f1, (rd_T111 x9_1 (rd l2 x19_1)).f2⟩ : S111)) := ⟨_, rfl⟩
          replace H : (if ((rd_T111 l0 (rd l2 x19_1)).f1) > x226001_1 then (impl_askPlaces.l0 k1 l0 a1 y229 (wrap64 (x10_1 + 1)) l2 (l2.length : Int) (wrap64 (x19_1 + 1)) ((rd_T111 l0 (rd l2 x19_1)).f0) ((rd_T111 l0 (rd l2 x19_1)).f1) ((rd_T111 l0 (rd l2 x19_1)).f2)) else (impl_askPlaces.l0 k1 l0 a1 y229 (wrap64 (x10_1 + 1)) l2 (l2.length : Int) (wrap64 (x19_1 + 1)) x226000_1 x226001_1 x226002_1)) = some (r1, r2, r3) := by first | (rw [hy229]; with_reducible exact H) | (have H2_ := (Option.bind_some _ _).symm.trans H; rw [hy229]; with_reducible exact H2_) | (have H2_ := (Option.bind_some _ _).symm.trans H; with_reducible exact H2_) | with_reducible exact H | (rw [hy229]; exact H) | exact H
          have Ny229 := Aside0.mk hy229
          clear hy229
          by_cases c16 : ((rd_T111 l0 (rd l2 x19_1)).f1) > x226001_1
          ·rw [if_pos c16] at H
           have c16b0 : decide (x226001_1 < ((rd_T111 l0 (rd l2 x19_1)).f1)) = true := decide_eq_true c16
           clear c16
           have H' := Aside0.mk H
           clear H
           have p227 : 0 ≤ (x19_1 : Int) := of_decide_eq_true (by first | (with_reducible assumption) | assumption)
           have q227 : x19_1 < (l2.length : Int) := of_decide_eq_true (by first | (with_reducible assumption) | assumption)
           obtain ⟨ad227, e227, hx227_0⟩ := Kd.at_int HR2.out x19_1 p227 q227
           cases e227
           replace hx227_0 := (HB.out.cell (World.block_lt_of_cell? w _ hx227_0)).trans hx227_0
           replace p227 := eq_true p227
           replace q227 := eq_true q227
           have p228 : 0 ≤ ((rd l2 x19_1) : Int) := of_decide_eq_true (by first | (with_reducible assumption) | assumption)
           have q228 : (rd l2 x19_1) < (l0.length : Int) := of_decide_eq_true (by first | (with_reducible assumption) | assumption)
           obtain ⟨ad228, e228, hx228_0, hx228_1, hx228_2⟩ := at_T111 HR0.out (rd l2 x19_1) p228 q228
           cases e228
           replace hx228_0 := (HB.out.cell (World.block_lt_of_cell? w _ hx228_0)).trans hx228_0
           replace hx228_1 := (HB.out.cell (World.block_lt_of_cell? w _ hx228_1)).trans hx228_1
           replace hx228_2 := (HB.out.cell (World.block_lt_of_cell? w _ hx228_2)).trans hx228_2
           replace p228 := eq_true p228
           replace q228 := eq_true q228
           have p15 : 0 ≤ ((rd l2 x19_1) : Int) := of_decide_eq_true (by first | (with_reducible assumption) | assumption)
           have q15 : ((rd l2 x19_1) : Int) < ((x9_1.length : Int) : Int) := of_decide_eq_true (by first | (with_reducible assumption) | assumption)
           obtain ⟨go15, co15, eo15, gb15, gl15, cl15, HG15⟩ := Kd.R_form HO_9.out (by omega)
           (first | cases eo15 | (injection eo15 with ea_ en_ ec_; (first | subst ea_ | (injection ea_ with ea_; subst ea_)); subst ec_; clear en_))
           have GB15 := Aside0.mk gb15
           have GG15 := Aside0.mk HG15
           clear gb15 gl15 HG15
           obtain ⟨ce15, hcl15, hM15, hcc15, hfr15⟩ := Kd.R_elem HO_9.out z111 ((rd l2 x19_1) : Int) p15 q15
           obtain rfl := k111_openM hM15
           have hx15_0 : wr.cell? ⟨go15, ((rd l2 x19_1) : Int).toNat * 3, none⟩ = some (.int .i64 ((rd_T111 x9_1 (rd l2 x19_1)).f0)) := hcc15 0 _ rfl
           have hx15_1 : wr.cell? ⟨go15, ((rd l2 x19_1) : Int).toNat * 3 + 1, none⟩ = some (.int .i64 ((rd_T111 x9_1 (rd l2 x19_1)).f1)) := hcc15 1 _ rfl
           have hx15_2 : wr.cell? ⟨go15, ((rd l2 x19_1) : Int).toNat * 3 + 2, none⟩ = some (.int .i64 ((rd_T111 x9_1 (rd l2 x19_1)).f2)) := hcc15 2 _ rfl
           have hf15_0 : wr.frozen? ⟨go15, ((rd l2 x19_1) : Int).toNat * 3, none⟩ = false := hfr15 0
           have hf15_1 : wr.frozen? ⟨go15, ((rd l2 x19_1) : Int).toNat * 3 + 1, none⟩ = false := hfr15 1
           have hf15_2 : wr.frozen? ⟨go15, ((rd l2 x19_1) : Int).toNat * 3 + 2, none⟩ = false := hfr15 2
           clear hcl15 hcc15 hfr15; (try clear hM15)
           replace p15 := eq_true p15
           replace q15 := eq_true q15
           have HX17 := Aside0.mk (show Kd.R k111 111 wr w.heap.size (fun k_ => k_ ≠ gb225) (.slice (some ⟨go15, 0, none⟩) x9_1.length co15) x9_1 from (by (with_reducible repeat (first | apply Kd.R_alloc | apply Kd.R_drewN | apply Kd.R_drew)); exact HO_9.out))
           obtain ⟨ce17, hcl17, hM17, hcc17, hfr17⟩ := Kd.R_elem HX17.out z111 ((rd l2 x19_1) : Int) (of_decide_eq_true (by first | (with_reducible assumption) | assumption)) (by have h_ : ((rd l2 x19_1) : Int) < ((x9_1.length : Int) : Int) := of_decide_eq_true (by first | (with_reducible assumption) | assumption); first | exact h_ | (have e_ := (Kd.R_reads' HO_9.out).1; omega) | simpa using h_)
           obtain rfl := k111_openM hM17
           have HP17 := Kd.R_seg HX17.out ((rd l2 x19_1) : Int) (of_decide_eq_true (by first | (with_reducible assumption) | assumption)) (by have h_ : ((rd l2 x19_1) : Int) < ((x9_1.length : Int) : Int) := of_decide_eq_true (by first | (with_reducible assumption) | assumption); first | exact h_ | (have e_ := (Kd.R_reads' HO_9.out).1; omega) | simpa using h_) (seg := [.int .i64 a1]) (j := 0) hcl17 hcc17 (show 1 ≤ 3 from by decide) (x' := (⟨a1, (rd_T111 x9_1 (rd l2 x19_1)).f1, (rd_T111 x9_1 (rd l2 x19_1)).f2⟩ : S111)) (k111_mkM _ _ _ (⟨a1, (rd_T111 x9_1 (rd l2 x19_1)).f1, (rd_T111 x9_1 (rd l2 x19_1)).f2⟩ : S111) ) (fun _ hk => hk)
           have hx17_0 := hcc17 0 _ rfl
           (try simp only [show (k111).sz = 3 from rfl, Nat.mul_one, Nat.add_zero] at hx17_0)
           have hf17_0 := hfr17 0
           (try simp only [show (k111).sz = 3 from rfl, Nat.mul_one, Nat.add_zero] at hf17_0)
           clear hcl17 hcc17 hfr17; (try clear hM17)
           go_wp2_with (first | ((with_reducible refine gate_store (t := 3) (p := 34) rfl ?_); (try (rw [drewN_self wr]; generalize hq_ : World.drewN wr _ = wr; have n0_ := Aside0.mk (Kd.R_at hq_ HO_9.out); have n1_ := Aside0.mk (blk_at hq_ BK225.out); have n2_ := Aside0.mk (below_at hq_ HB.out); clear hq_ HO_9 BK225 HB; have HO_9 := n0_; have BK225 := n1_; have HB := n2_; clear n0_ n1_ n2_; (try (have HX17 := Aside0.mk (show Kd.R k111 111 wr w.heap.size (fun k_ => k_ ≠ gb225) (.slice (some ⟨go15, 0, none⟩) x9_1.length co15) x9_1 from (by (with_reducible repeat (first | apply Kd.R_alloc | apply Kd.R_drewN | apply Kd.R_drew)); exact HO_9.out)))); (try (obtain ⟨ce17, hcl17, hM17, hcc17, hfr17⟩ := Kd.R_elem HX17.out z111 ((rd l2 x19_1) : Int) (of_decide_eq_true (by first | (with_reducible assumption) | assumption)) (by have h_ : ((rd l2 x19_1) : Int) < ((x9_1.length : Int) : Int) := of_decide_eq_true (by first | (with_reducible assumption) | assumption); first | exact h_ | (have e_ := (Kd.R_reads' HO_9.out).1; omega) | simpa using h_))); (try (obtain rfl := k111_openM hM17)); (try (have HP17 := Kd.R_seg HX17.out ((rd l2 x19_1) : Int) (of_decide_eq_true (by first | (with_reducible assumption) | assumption)) (by have h_ : ((rd l2 x19_1) : Int) < ((x9_1.length : Int) : Int) := of_decide_eq_true (by first | (with_reducible assumption) | assumption); first | exact h_ | (have e_ := (Kd.R_reads' HO_9.out).1; omega) | simpa using h_) (seg := [.int .i64 a1]) (j := 0) hcl17 hcc17 (show 1 ≤ 3 from by decide) (x' := (⟨a1, (rd_T111 x9_1 (rd l2 x19_1)).f1, (rd_T111 x9_1 (rd l2 x19_1)).f2⟩ : S111)) (k111_mkM _ _ _ (⟨a1, (rd_T111 x9_1 (rd l2 x19_1)).f1, (rd_T111 x9_1 (rd l2 x19_1)).f2⟩ : S111) ) (fun _ hk => hk))); (try (have hx17_0 := hcc17 0 _ rfl)); (try (try simp only [show (k111).sz = 3 from rfl, Nat.mul_one, Nat.add_zero] at hx17_0)); (try (have hf17_0 := hfr17 0)); (try (try simp only [show (k111).sz = 3 from rfl, Nat.mul_one, Nat.add_zero] at hf17_0)); (try (clear hcl17 hcc17 hfr17; (try clear hM17))))); refine store_event (t := 3) (p := 34) (v := ?vo_w18) (w1 := (wr.setCell ⟨go15, ((rd l2 x19_1) : Int).toNat * 3, none⟩ (.int .i64 a1))) ?hg ?ho ?hn ?hr ?_; (case ho => rfl); (case hg => rfl); (case hn => rfl); (case hr => first | (go_simp; done) | (go_simp; rfl)); intro w18 hw; have hg : wr.grownBy w18 (some go15) := (by rw [hw]; exact HP17.2); have hp_ : Kd.R k111 111 w18 w.heap.size (fun k_ => k_ ≠ gb225) (.slice (some ⟨go15, 0, none⟩) x9_1.length co15) y229 := (by rw [hw, Ny229.out]; exact HP17.1); clear HP17; have n0_ := Aside0.mk (hp_); have n1_ := Aside0.mk (blk_grown (g := gb225) (o := .cells #[.int .i64 x226000_1, .int .i64 x226001_1, .int .i64 x226002_1] 111 (0, 0)) (by (with_reducible repeat (first | refine blk_drewN ?_ _ | refine blk_drew ?_ | refine blk_alloc ?_ _)); exact BK225.out) hg (Kd.R_away HO_9.out (fun _ hk => hk))); have n2_ := Aside0.mk ((by rw [hw]; exact below_set (HB.out) GB15.out : Below w.heap.size w w18)); clear HO_9; clear BK225; clear HB; have HO_9 := n0_; have BK225 := n1_; have HB := n2_; clear n0_ n1_ n2_; clear hg hw hp_; have p230 : 0 ≤ ((rd l2 x19_1) : Int) := of_decide_eq_true (by first | (with_reducible assumption) | assumption); have q230 : (rd l2 x19_1) < (l0.length : Int) := of_decide_eq_true (by first | (with_reducible assumption) | assumption); obtain ⟨ad230, e230, hx230_0, hx230_1, hx230_2⟩ := at_T111 HR0.out (rd l2 x19_1) p230 q230; obtain rfl : ad228 = ad230 := (by injection e230); replace hx230_0 := (HB.out.cell (World.block_lt_of_cell? w _ hx230_0)).trans hx230_0; replace hx230_1 := (HB.out.cell (World.block_lt_of_cell? w _ hx230_1)).trans hx230_1; replace hx230_2 := (HB.out.cell (World.block_lt_of_cell? w _ hx230_2)).trans hx230_2; replace p230 := eq_true p230; replace q230 := eq_true q230; have hcz19_0 : w18.cell? ⟨gb225, 0, none⟩ = some (.int .i64 x226000_1) := (blk_cell BK225.out 0).trans rfl; have hcz19_1 : w18.cell? ⟨gb225, 1, none⟩ = some (.int .i64 x226001_1) := (blk_cell BK225.out 1).trans rfl; have hcz19_2 : w18.cell? ⟨gb225, 2, none⟩ = some (.int .i64 x226002_1) := (blk_cell BK225.out 2).trans rfl; have hfz19_0 := blk_frozen BK225.out 0; have hfz19_1 := blk_frozen BK225.out 1; have hfz19_2 := blk_frozen BK225.out 2; have p231 : 0 ≤ ((rd l2 x19_1) : Int) := of_decide_eq_true (by first | (with_reducible assumption) | assumption); have q231 : (rd l2 x19_1) < (l0.length : Int) := of_decide_eq_true (by first | (with_reducible assumption) | assumption); obtain ⟨ad231, e231, hx231_0, hx231_1, hx231_2⟩ := at_T111 HR0.out (rd l2 x19_1) p231 q231; obtain rfl : ad228 = ad231 := (by injection e231); replace hx231_0 := (HB.out.cell (World.block_lt_of_cell? w _ hx231_0)).trans hx231_0; replace hx231_1 := (HB.out.cell (World.block_lt_of_cell? w _ hx231_1)).trans hx231_1; replace hx231_2 := (HB.out.cell (World.block_lt_of_cell? w _ hx231_2)).trans hx231_2; replace p231 := eq_true p231; replace q231 := eq_true q231))
           repeat (go_quiet (first | ((with_reducible refine gate_store (t := 3) (p := 34) rfl ?_); (try (rw [drewN_self wr]; generalize hq_ : World.drewN wr _ = wr; have n0_ := Aside0.mk (Kd.R_at hq_ HO_9.out); have n1_ := Aside0.mk (blk_at hq_ BK225.out); have n2_ := Aside0.mk (below_at hq_ HB.out); clear hq_ HO_9 BK225 HB; have HO_9 := n0_; have BK225 := n1_; have HB := n2_; clear n0_ n1_ n2_; (try (have HX17 := Aside0.mk (show Kd.R k111 111 wr w.heap.size (fun k_ => k_ ≠ gb225) (.slice (some ⟨go15, 0, none⟩) x9_1.length co15) x9_1 from (by (with_reducible repeat (first | apply Kd.R_alloc | apply Kd.R_drewN | apply Kd.R_drew)); exact HO_9.out)))); (try (obtain ⟨ce17, hcl17, hM17, hcc17, hfr17⟩ := Kd.R_elem HX17.out z111 ((rd l2 x19_1) : Int) (of_decide_eq_true (by first | (with_reducible assumption) | assumption)) (by have h_ : ((rd l2 x19_1) : Int) < ((x9_1.length : Int) : Int) := of_decide_eq_true (by first | (with_reducible assumption) | assumption); first | exact h_ | (have e_ := (Kd.R_reads' HO_9.out).1; omega) | simpa using h_))); (try (obtain rfl := k111_openM hM17)); (try (have HP17 := Kd.R_seg HX17.out ((rd l2 x19_1) : Int) (of_decide_eq_true (by first | (with_reducible assumption) | assumption)) (by have h_ : ((rd l2 x19_1) : Int) < ((x9_1.length : Int) : Int) := of_decide_eq_true (by first | (with_reducible assumption) | assumption); first | exact h_ | (have e_ := (Kd.R_reads' HO_9.out).1; omega) | simpa using h_) (seg := [.int .i64 a1]) (j := 0) hcl17 hcc17 (show 1 ≤ 3 from by decide) (x' := (⟨a1, (rd_T111 x9_1 (rd l2 x19_1)).f1, (rd_T111 x9_1 (rd l2 x19_1)).f2⟩ : S111)) (k111_mkM _ _ _ (⟨a1, (rd_T111 x9_1 (rd l2 x19_1)).f1, (rd_T111 x9_1 (rd l2 x19_1)).f2⟩ : S111) ) (fun _ hk => hk))); (try (have hx17_0 := hcc17 0 _ rfl)); (try (try simp only [show (k111).sz = 3 from rfl, Nat.mul_one, Nat.add_zero] at hx17_0)); (try (have hf17_0 := hfr17 0)); (try (try simp only [show (k111).sz = 3 from rfl, Nat.mul_one, Nat.add_zero] at hf17_0)); (try (clear hcl17 hcc17 hfr17; (try clear hM17))))); refine store_event (t := 3) (p := 34) (v := ?vo_w18) (w1 := (wr.setCell ⟨go15, ((rd l2 x19_1) : Int).toNat * 3, none⟩ (.int .i64 a1))) ?hg ?ho ?hn ?hr ?_; (case ho => rfl); (case hg => rfl); (case hn => rfl); (case hr => first | (go_simp; done) | (go_simp; rfl)); intro w18 hw; have hg : wr.grownBy w18 (some go15) := (by rw [hw]; exact HP17.2); have hp_ : Kd.R k111 111 w18 w.heap.size (fun k_ => k_ ≠ gb225) (.slice (some ⟨go15, 0, none⟩) x9_1.length co15) y229 := (by rw [hw, Ny229.out]; exact HP17.1); clear HP17; have n0_ := Aside0.mk (hp_); have n1_ := Aside0.mk (blk_grown (g := gb225) (o := .cells #[.int .i64 x226000_1, .int .i64 x226001_1, .int .i64 x226002_1] 111 (0, 0)) (by (with_reducible repeat (first | refine blk_drewN ?_ _ | refine blk_drew ?_ | refine blk_alloc ?_ _)); exact BK225.out) hg (Kd.R_away HO_9.out (fun _ hk => hk))); have n2_ := Aside0.mk ((by rw [hw]; exact below_set (HB.out) GB15.out : Below w.heap.size w w18)); clear HO_9; clear BK225; clear HB; have HO_9 := n0_; have BK225 := n1_; have HB := n2_; clear n0_ n1_ n2_; clear hg hw hp_; have p230 : 0 ≤ ((rd l2 x19_1) : Int) := of_decide_eq_true (by first | (with_reducible assumption) | assumption); have q230 : (rd l2 x19_1) < (l0.length : Int) := of_decide_eq_true (by first | (with_reducible assumption) | assumption); obtain ⟨ad230, e230, hx230_0, hx230_1, hx230_2⟩ := at_T111 HR0.out (rd l2 x19_1) p230 q230; obtain rfl : ad228 = ad230 := (by injection e230); replace hx230_0 := (HB.out.cell (World.block_lt_of_cell? w _ hx230_0)).trans hx230_0; replace hx230_1 := (HB.out.cell (World.block_lt_of_cell? w _ hx230_1)).trans hx230_1; replace hx230_2 := (HB.out.cell (World.block_lt_of_cell? w _ hx230_2)).trans hx230_2; replace p230 := eq_true p230; replace q230 := eq_true q230; have hcz19_0 : w18.cell? ⟨gb225, 0, none⟩ = some (.int .i64 x226000_1) := (blk_cell BK225.out 0).trans rfl; have hcz19_1 : w18.cell? ⟨gb225, 1, none⟩ = some (.int .i64 x226001_1) := (blk_cell BK225.out 1).trans rfl; have hcz19_2 : w18.cell? ⟨gb225, 2, none⟩ = some (.int .i64 x226002_1) := (blk_cell BK225.out 2).trans rfl; have hfz19_0 := blk_frozen BK225.out 0; have hfz19_1 := blk_frozen BK225.out 1; have hfz19_2 := blk_frozen BK225.out 2; have p231 : 0 ≤ ((rd l2 x19_1) : Int) := of_decide_eq_true (by first | (with_reducible assumption) | assumption); have q231 : (rd l2 x19_1) < (l0.length : Int) := of_decide_eq_true (by first | (with_reducible assumption) | assumption); obtain ⟨ad231, e231, hx231_0, hx231_1, hx231_2⟩ := at_T111 HR0.out (rd l2 x19_1) p231 q231; obtain rfl : ad228 = ad231 := (by injection e231); replace hx231_0 := (HB.out.cell (World.block_lt_of_cell? w _ hx231_0)).trans hx231_0; replace hx231_1 := (HB.out.cell (World.block_lt_of_cell? w _ hx231_1)).trans hx231_1; replace hx231_2 := (HB.out.cell (World.block_lt_of_cell? w _ hx231_2)).trans hx231_2; replace p231 := eq_true p231; replace q231 := eq_true q231)); try go_wp2_with (first | ((with_reducible refine gate_store (t := 3) (p := 34) rfl ?_); (try (rw [drewN_self wr]; generalize hq_ : World.drewN wr _ = wr; have n0_ := Aside0.mk (Kd.R_at hq_ HO_9.out); have n1_ := Aside0.mk (blk_at hq_ BK225.out); have n2_ := Aside0.mk (below_at hq_ HB.out); clear hq_ HO_9 BK225 HB; have HO_9 := n0_; have BK225 := n1_; have HB := n2_; clear n0_ n1_ n2_; (try (have HX17 := Aside0.mk (show Kd.R k111 111 wr w.heap.size (fun k_ => k_ ≠ gb225) (.slice (some ⟨go15, 0, none⟩) x9_1.length co15) x9_1 from (by (with_reducible repeat (first | apply Kd.R_alloc | apply Kd.R_drewN | apply Kd.R_drew)); exact HO_9.out)))); (try (obtain ⟨ce17, hcl17, hM17, hcc17, hfr17⟩ := Kd.R_elem HX17.out z111 ((rd l2 x19_1) : Int) (of_decide_eq_true (by first | (with_reducible assumption) | assumption)) (by have h_ : ((rd l2 x19_1) : Int) < ((x9_1.length : Int) : Int) := of_decide_eq_true (by first | (with_reducible assumption) | assumption); first | exact h_ | (have e_ := (Kd.R_reads' HO_9.out).1; omega) | simpa using h_))); (try (obtain rfl := k111_openM hM17)); (try (have HP17 := Kd.R_seg HX17.out ((rd l2 x19_1) : Int) (of_decide_eq_true (by first | (with_reducible assumption) | assumption)) (by have h_ : ((rd l2 x19_1) : Int) < ((x9_1.length : Int) : Int) := of_decide_eq_true (by first | (with_reducible assumption) | assumption); first | exact h_ | (have e_ := (Kd.R_reads' HO_9.out).1; omega) | simpa using h_) (seg := [.int .i64 a1]) (j := 0) hcl17 hcc17 (show 1 ≤ 3 from by decide) (x' := (⟨a1, (rd_T111 x9_1 (rd l2 x19_1)).f1, (rd_T111 x9_1 (rd l2 x19_1)).f2⟩ : S111)) (k111_mkM _ _ _ (⟨a1, (rd_T111 x9_1 (rd l2 x19_1)).f1, (rd_T111 x9_1 (rd l2 x19_1)).f2⟩ : S111) ) (fun _ hk => hk))); (try (have hx17_0 := hcc17 0 _ rfl)); (try (try simp only [show (k111).sz = 3 from rfl, Nat.mul_one, Nat.add_zero] at hx17_0)); (try (have hf17_0 := hfr17 0)); (try (try simp only [show (k111).sz = 3 from rfl, Nat.mul_one, Nat.add_zero] at hf17_0)); (try (clear hcl17 hcc17 hfr17; (try clear hM17))))); refine store_event (t := 3) (p := 34) (v := ?vo_w18) (w1 := (wr.setCell ⟨go15, ((rd l2 x19_1) : Int).toNat * 3, none⟩ (.int .i64 a1))) ?hg ?ho ?hn ?hr ?_; (case ho => rfl); (case hg => rfl); (case hn => rfl); (case hr => first | (go_simp; done) | (go_simp; rfl)); intro w18 hw; have hg : wr.grownBy w18 (some go15) := (by rw [hw]; exact HP17.2); have hp_ : Kd.R k111 111 w18 w.heap.size (fun k_ => k_ ≠ gb225) (.slice (some ⟨go15, 0, none⟩) x9_1.length co15) y229 := (by rw [hw, Ny229.out]; exact HP17.1); clear HP17; have n0_ := Aside0.mk (hp_); have n1_ := Aside0.mk (blk_grown (g := gb225) (o := .cells #[.int .i64 x226000_1, .int .i64 x226001_1, .int .i64 x226002_1] 111 (0, 0)) (by (with_reducible repeat (first | refine blk_drewN ?_ _ | refine blk_drew ?_ | refine blk_alloc ?_ _)); exact BK225.out) hg (Kd.R_away HO_9.out (fun _ hk => hk))); have n2_ := Aside0.mk ((by rw [hw]; exact below_set (HB.out) GB15.out : Below w.heap.size w w18)); clear HO_9; clear BK225; clear HB; have HO_9 := n0_; have BK225 := n1_; have HB := n2_; clear n0_ n1_ n2_; clear hg hw hp_; have p230 : 0 ≤ ((rd l2 x19_1) : Int) := of_decide_eq_true (by first | (with_reducible assumption) | assumption); have q230 : (rd l2 x19_1) < (l0.length : Int) := of_decide_eq_true (by first | (with_reducible assumption) | assumption); obtain ⟨ad230, e230, hx230_0, hx230_1, hx230_2⟩ := at_T111 HR0.out (rd l2 x19_1) p230 q230; obtain rfl : ad228 = ad230 := (by injection e230); replace hx230_0 := (HB.out.cell (World.block_lt_of_cell? w _ hx230_0)).trans hx230_0; replace hx230_1 := (HB.out.cell (World.block_lt_of_cell? w _ hx230_1)).trans hx230_1; replace hx230_2 := (HB.out.cell (World.block_lt_of_cell? w _ hx230_2)).trans hx230_2; replace p230 := eq_true p230; replace q230 := eq_true q230; have hcz19_0 : w18.cell? ⟨gb225, 0, none⟩ = some (.int .i64 x226000_1) := (blk_cell BK225.out 0).trans rfl; have hcz19_1 : w18.cell? ⟨gb225, 1, none⟩ = some (.int .i64 x226001_1) := (blk_cell BK225.out 1).trans rfl; have hcz19_2 : w18.cell? ⟨gb225, 2, none⟩ = some (.int .i64 x226002_1) := (blk_cell BK225.out 2).trans rfl; have hfz19_0 := blk_frozen BK225.out 0; have hfz19_1 := blk_frozen BK225.out 1; have hfz19_2 := blk_frozen BK225.out 2; have p231 : 0 ≤ ((rd l2 x19_1) : Int) := of_decide_eq_true (by first | (with_reducible assumption) | assumption); have q231 : (rd l2 x19_1) < (l0.length : Int) := of_decide_eq_true (by first | (with_reducible assumption) | assumption); obtain ⟨ad231, e231, hx231_0, hx231_1, hx231_2⟩ := at_T111 HR0.out (rd l2 x19_1) p231 q231; obtain rfl : ad228 = ad231 := (by injection e231); replace hx231_0 := (HB.out.cell (World.block_lt_of_cell? w _ hx231_0)).trans hx231_0; replace hx231_1 := (HB.out.cell (World.block_lt_of_cell? w _ hx231_1)).trans hx231_1; replace hx231_2 := (HB.out.cell (World.block_lt_of_cell? w _ hx231_2)).trans hx231_2; replace p231 := eq_true p231; replace q231 := eq_true q231)))
           go_roundg k1
           case measure => have := HK1.out; omega
           case rel => exact ⟨(y229), (wrap64 (x10_1 + 1)), (wrap64 (x19_1 + 1)), ((rd_T111 l0 (rd l2 x19_1)).f0), ((rd_T111 l0 (rd l2 x19_1)).f1), ((rd_T111 l0 (rd l2 x19_1)).f2), (by first | rfl | (simp; done) | (simp [*]; done)), (by first | rfl | (simp; done) | (simp [*]; done)), H', ⟨by have := HK1.out; omega⟩, ⟨by (with_reducible repeat (first | apply Kd.R_alloc | apply Kd.R_drewN | apply Kd.R_drew)); exact Kd.R_mono (Kd.R_far (p := ⟨gb225, 2, none⟩) (Kd.R_far (p := ⟨gb225, 1, none⟩) (Kd.R_far (p := ⟨gb225, 0, none⟩) (Kd.R_mono HO_9.out (fun k_ hk => (⟨hk, hk⟩ : _ ∧ k_ ≠ gb225))) (fun _ hk => hk.2) (.int .i64 ((rd_T111 l0 (rd l2 x19_1)).f0))) (fun _ hk => hk.2) (.int .i64 ((rd_T111 l0 (rd l2 x19_1)).f1))) (fun _ hk => hk.2) (.int .i64 ((rd_T111 l0 (rd l2 x19_1)).f2))) (fun _ hk => hk.1)⟩, ⟨by (with_reducible repeat (first | refine blk_drewN ?_ _ | refine blk_drew ?_ | refine blk_alloc ?_ _)); refine blk_put (cs := #[.int .i64 ((rd_T111 l0 (rd l2 x19_1)).f0), .int .i64 ((rd_T111 l0 (rd l2 x19_1)).f1), .int .i64 x226002_1]) ?_ 2 _ rfl; (with_reducible repeat (first | refine blk_drewN ?_ _ | refine blk_drew ?_ | refine blk_alloc ?_ _)); refine blk_put (cs := #[.int .i64 ((rd_T111 l0 (rd l2 x19_1)).f0), .int .i64 x226001_1, .int .i64 x226002_1]) ?_ 1 _ rfl; (with_reducible repeat (first | refine blk_drewN ?_ _ | refine blk_drew ?_ | refine blk_alloc ?_ _)); refine blk_put (cs := #[.int .i64 x226000_1, .int .i64 x226001_1, .int .i64 x226002_1]) ?_ 0 _ rfl; (with_reducible repeat (first | refine blk_drewN ?_ _ | refine blk_drew ?_ | refine blk_alloc ?_ _)); exact BK225.out⟩, ⟨by repeat (first | (with_reducible first | exact HB.out | apply below_alloc | apply pw_below_drewN | apply below_drew1 | refine below_set ?_ GE225.out) | exact HB.out)⟩⟩
          ·rw [if_neg c16] at H
           have c16b0 : decide (x226001_1 < ((rd_T111 l0 (rd l2 x19_1)).f1)) = false := decide_eq_false c16
           clear c16
           have H' := Aside0.mk H
           clear H
           have p227 : 0 ≤ (x19_1 : Int) := of_decide_eq_true (by first | (with_reducible assumption) | assumption)
           have q227 : x19_1 < (l2.length : Int) := of_decide_eq_true (by first | (with_reducible assumption) | assumption)
           obtain ⟨ad227, e227, hx227_0⟩ := Kd.at_int HR2.out x19_1 p227 q227
           cases e227
           replace hx227_0 := (HB.out.cell (World.block_lt_of_cell? w _ hx227_0)).trans hx227_0
           replace p227 := eq_true p227
           replace q227 := eq_true q227
           have p228 : 0 ≤ ((rd l2 x19_1) : Int) := of_decide_eq_true (by first | (with_reducible assumption) | assumption)
           have q228 : (rd l2 x19_1) < (l0.length : Int) := of_decide_eq_true (by first | (with_reducible assumption) | assumption)
           obtain ⟨ad228, e228, hx228_0, hx228_1, hx228_2⟩ := at_T111 HR0.out (rd l2 x19_1) p228 q228
           cases e228
           replace hx228_0 := (HB.out.cell (World.block_lt_of_cell? w _ hx228_0)).trans hx228_0
           replace hx228_1 := (HB.out.cell (World.block_lt_of_cell? w _ hx228_1)).trans hx228_1
           replace hx228_2 := (HB.out.cell (World.block_lt_of_cell? w _ hx228_2)).trans hx228_2
           replace p228 := eq_true p228
           replace q228 := eq_true q228
           have p15 : 0 ≤ ((rd l2 x19_1) : Int) := of_decide_eq_true (by first | (with_reducible assumption) | assumption)
           have q15 : ((rd l2 x19_1) : Int) < ((x9_1.length : Int) : Int) := of_decide_eq_true (by first | (with_reducible assumption) | assumption)
           obtain ⟨go15, co15, eo15, gb15, gl15, cl15, HG15⟩ := Kd.R_form HO_9.out (by omega)
           (first | cases eo15 | (injection eo15 with ea_ en_ ec_; (first | subst ea_ | (injection ea_ with ea_; subst ea_)); subst ec_; clear en_))
           have GB15 := Aside0.mk gb15
           have GG15 := Aside0.mk HG15
           clear gb15 gl15 HG15
           obtain ⟨ce15, hcl15, hM15, hcc15, hfr15⟩ := Kd.R_elem HO_9.out z111 ((rd l2 x19_1) : Int) p15 q15
           obtain rfl := k111_openM hM15
           have hx15_0 : wr.cell? ⟨go15, ((rd l2 x19_1) : Int).toNat * 3, none⟩ = some (.int .i64 ((rd_T111 x9_1 (rd l2 x19_1)).f0)) := hcc15 0 _ rfl
           have hx15_1 : wr.cell? ⟨go15, ((rd l2 x19_1) : Int).toNat * 3 + 1, none⟩ = some (.int .i64 ((rd_T111 x9_1 (rd l2 x19_1)).f1)) := hcc15 1 _ rfl
           have hx15_2 : wr.cell? ⟨go15, ((rd l2 x19_1) : Int).toNat * 3 + 2, none⟩ = some (.int .i64 ((rd_T111 x9_1 (rd l2 x19_1)).f2)) := hcc15 2 _ rfl
           have hf15_0 : wr.frozen? ⟨go15, ((rd l2 x19_1) : Int).toNat * 3, none⟩ = false := hfr15 0
           have hf15_1 : wr.frozen? ⟨go15, ((rd l2 x19_1) : Int).toNat * 3 + 1, none⟩ = false := hfr15 1
           have hf15_2 : wr.frozen? ⟨go15, ((rd l2 x19_1) : Int).toNat * 3 + 2, none⟩ = false := hfr15 2
           clear hcl15 hcc15 hfr15; (try clear hM15)
           replace p15 := eq_true p15
           replace q15 := eq_true q15
           have HX20 := Aside0.mk (show Kd.R k111 111 wr w.heap.size (fun k_ => k_ ≠ gb225) (.slice (some ⟨go15, 0, none⟩) x9_1.length co15) x9_1 from (by (with_reducible repeat (first | apply Kd.R_alloc | apply Kd.R_drewN | apply Kd.R_drew)); exact HO_9.out))
           obtain ⟨ce20, hcl20, hM20, hcc20, hfr20⟩ := Kd.R_elem HX20.out z111 ((rd l2 x19_1) : Int) (of_decide_eq_true (by first | (with_reducible assumption) | assumption)) (by have h_ : ((rd l2 x19_1) : Int) < ((x9_1.length : Int) : Int) := of_decide_eq_true (by first | (with_reducible assumption) | assumption); first | exact h_ | (have e_ := (Kd.R_reads' HO_9.out).1; omega) | simpa using h_)
           obtain rfl := k111_openM hM20
           have HP20 := Kd.R_seg HX20.out ((rd l2 x19_1) : Int) (of_decide_eq_true (by first | (with_reducible assumption) | assumption)) (by have h_ : ((rd l2 x19_1) : Int) < ((x9_1.length : Int) : Int) := of_decide_eq_true (by first | (with_reducible assumption) | assumption); first | exact h_ | (have e_ := (Kd.R_reads' HO_9.out).1; omega) | simpa using h_) (seg := [.int .i64 a1]) (j := 0) hcl20 hcc20 (show 1 ≤ 3 from by decide) (x' := (⟨a1, (rd_T111 x9_1 (rd l2 x19_1)).f1, (rd_T111 x9_1 (rd l2 x19_1)).f2⟩ : S111)) (k111_mkM _ _ _ (⟨a1, (rd_T111 x9_1 (rd l2 x19_1)).f1, (rd_T111 x9_1 (rd l2 x19_1)).f2⟩ : S111) ) (fun _ hk => hk)
           have hx20_0 := hcc20 0 _ rfl
           (try simp only [show (k111).sz = 3 from rfl, Nat.mul_one, Nat.add_zero] at hx20_0)
           have hf20_0 := hfr20 0
           (try simp only [show (k111).sz = 3 from rfl, Nat.mul_one, Nat.add_zero] at hf20_0)
           clear hcl20 hcc20 hfr20; (try clear hM20)
           go_wp2_with (first | ((with_reducible refine gate_store (t := 3) (p := 34) rfl ?_); (try (rw [drewN_self wr]; generalize hq_ : World.drewN wr _ = wr; have n0_ := Aside0.mk (Kd.R_at hq_ HO_9.out); have n1_ := Aside0.mk (blk_at hq_ BK225.out); have n2_ := Aside0.mk (below_at hq_ HB.out); clear hq_ HO_9 BK225 HB; have HO_9 := n0_; have BK225 := n1_; have HB := n2_; clear n0_ n1_ n2_; (try (have HX20 := Aside0.mk (show Kd.R k111 111 wr w.heap.size (fun k_ => k_ ≠ gb225) (.slice (some ⟨go15, 0, none⟩) x9_1.length co15) x9_1 from (by (with_reducible repeat (first | apply Kd.R_alloc | apply Kd.R_drewN | apply Kd.R_drew)); exact HO_9.out)))); (try (obtain ⟨ce20, hcl20, hM20, hcc20, hfr20⟩ := Kd.R_elem HX20.out z111 ((rd l2 x19_1) : Int) (of_decide_eq_true (by first | (with_reducible assumption) | assumption)) (by have h_ : ((rd l2 x19_1) : Int) < ((x9_1.length : Int) : Int) := of_decide_eq_true (by first | (with_reducible assumption) | assumption); first | exact h_ | (have e_ := (Kd.R_reads' HO_9.out).1; omega) | simpa using h_))); (try (obtain rfl := k111_openM hM20)); (try (have HP20 := Kd.R_seg HX20.out ((rd l2 x19_1) : Int) (of_decide_eq_true (by first | (with_reducible assumption) | assumption)) (by have h_ : ((rd l2 x19_1) : Int) < ((x9_1.length : Int) : Int) := of_decide_eq_true (by first | (with_reducible assumption) | assumption); first | exact h_ | (have e_ := (Kd.R_reads' HO_9.out).1; omega) | simpa using h_) (seg := [.int .i64 a1]) (j := 0) hcl20 hcc20 (show 1 ≤ 3 from by decide) (x' := (⟨a1, (rd_T111 x9_1 (rd l2 x19_1)).f1, (rd_T111 x9_1 (rd l2 x19_1)).f2⟩ : S111)) (k111_mkM _ _ _ (⟨a1, (rd_T111 x9_1 (rd l2 x19_1)).f1, (rd_T111 x9_1 (rd l2 x19_1)).f2⟩ : S111) ) (fun _ hk => hk))); (try (have hx20_0 := hcc20 0 _ rfl)); (try (try simp only [show (k111).sz = 3 from rfl, Nat.mul_one, Nat.add_zero] at hx20_0)); (try (have hf20_0 := hfr20 0)); (try (try simp only [show (k111).sz = 3 from rfl, Nat.mul_one, Nat.add_zero] at hf20_0)); (try (clear hcl20 hcc20 hfr20; (try clear hM20))))); refine store_event (t := 3) (p := 34) (v := ?vo_w21) (w1 := (wr.setCell ⟨go15, ((rd l2 x19_1) : Int).toNat * 3, none⟩ (.int .i64 a1))) ?hg ?ho ?hn ?hr ?_; (case ho => rfl); (case hg => rfl); (case hn => rfl); (case hr => first | (go_simp; done) | (go_simp; rfl)); intro w21 hw; have hg : wr.grownBy w21 (some go15) := (by rw [hw]; exact HP20.2); have hp_ : Kd.R k111 111 w21 w.heap.size (fun k_ => k_ ≠ gb225) (.slice (some ⟨go15, 0, none⟩) x9_1.length co15) y229 := (by rw [hw, Ny229.out]; exact HP20.1); clear HP20; have n0_ := Aside0.mk (hp_); have n1_ := Aside0.mk (blk_grown (g := gb225) (o := .cells #[.int .i64 x226000_1, .int .i64 x226001_1, .int .i64 x226002_1] 111 (0, 0)) (by (with_reducible repeat (first | refine blk_drewN ?_ _ | refine blk_drew ?_ | refine blk_alloc ?_ _)); exact BK225.out) hg (Kd.R_away HO_9.out (fun _ hk => hk))); have n2_ := Aside0.mk ((by rw [hw]; exact below_set (HB.out) GB15.out : Below w.heap.size w w21)); clear HO_9; clear BK225; clear HB; have HO_9 := n0_; have BK225 := n1_; have HB := n2_; clear n0_ n1_ n2_; clear hg hw hp_; have p230 : 0 ≤ ((rd l2 x19_1) : Int) := of_decide_eq_true (by first | (with_reducible assumption) | assumption); have q230 : (rd l2 x19_1) < (l0.length : Int) := of_decide_eq_true (by first | (with_reducible assumption) | assumption); obtain ⟨ad230, e230, hx230_0, hx230_1, hx230_2⟩ := at_T111 HR0.out (rd l2 x19_1) p230 q230; obtain rfl : ad228 = ad230 := (by injection e230); replace hx230_0 := (HB.out.cell (World.block_lt_of_cell? w _ hx230_0)).trans hx230_0; replace hx230_1 := (HB.out.cell (World.block_lt_of_cell? w _ hx230_1)).trans hx230_1; replace hx230_2 := (HB.out.cell (World.block_lt_of_cell? w _ hx230_2)).trans hx230_2; replace p230 := eq_true p230; replace q230 := eq_true q230; have hcz22_0 : w21.cell? ⟨gb225, 0, none⟩ = some (.int .i64 x226000_1) := (blk_cell BK225.out 0).trans rfl; have hcz22_1 : w21.cell? ⟨gb225, 1, none⟩ = some (.int .i64 x226001_1) := (blk_cell BK225.out 1).trans rfl; have hcz22_2 : w21.cell? ⟨gb225, 2, none⟩ = some (.int .i64 x226002_1) := (blk_cell BK225.out 2).trans rfl; have hfz22_0 := blk_frozen BK225.out 0; have hfz22_1 := blk_frozen BK225.out 1; have hfz22_2 := blk_frozen BK225.out 2))
           repeat (go_quiet (first | ((with_reducible refine gate_store (t := 3) (p := 34) rfl ?_); (try (rw [drewN_self wr]; generalize hq_ : World.drewN wr _ = wr; have n0_ := Aside0.mk (Kd.R_at hq_ HO_9.out); have n1_ := Aside0.mk (blk_at hq_ BK225.out); have n2_ := Aside0.mk (below_at hq_ HB.out); clear hq_ HO_9 BK225 HB; have HO_9 := n0_; have BK225 := n1_; have HB := n2_; clear n0_ n1_ n2_; (try (have HX20 := Aside0.mk (show Kd.R k111 111 wr w.heap.size (fun k_ => k_ ≠ gb225) (.slice (some ⟨go15, 0, none⟩) x9_1.length co15) x9_1 from (by (with_reducible repeat (first | apply Kd.R_alloc | apply Kd.R_drewN | apply Kd.R_drew)); exact HO_9.out)))); (try (obtain ⟨ce20, hcl20, hM20, hcc20, hfr20⟩ := Kd.R_elem HX20.out z111 ((rd l2 x19_1) : Int) (of_decide_eq_true (by first | (with_reducible assumption) | assumption)) (by have h_ : ((rd l2 x19_1) : Int) < ((x9_1.length : Int) : Int) := of_decide_eq_true (by first | (with_reducible assumption) | assumption); first | exact h_ | (have e_ := (Kd.R_reads' HO_9.out).1; omega) | simpa using h_))); (try (obtain rfl := k111_openM hM20)); (try (have HP20 := Kd.R_seg HX20.out ((rd l2 x19_1) : Int) (of_decide_eq_true (by first | (with_reducible assumption) | assumption)) (by have h_ : ((rd l2 x19_1) : Int) < ((x9_1.length : Int) : Int) := of_decide_eq_true (by first | (with_reducible assumption) | assumption); first | exact h_ | (have e_ := (Kd.R_reads' HO_9.out).1; omega) | simpa using h_) (seg := [.int .i64 a1]) (j := 0) hcl20 hcc20 (show 1 ≤ 3 from by decide) (x' := (⟨a1, (rd_T111 x9_1 (rd l2 x19_1)).f1, (rd_T111 x9_1 (rd l2 x19_1)).f2⟩ : S111)) (k111_mkM _ _ _ (⟨a1, (rd_T111 x9_1 (rd l2 x19_1)).f1, (rd_T111 x9_1 (rd l2 x19_1)).f2⟩ : S111) ) (fun _ hk => hk))); (try (have hx20_0 := hcc20 0 _ rfl)); (try (try simp only [show (k111).sz = 3 from rfl, Nat.mul_one, Nat.add_zero] at hx20_0)); (try (have hf20_0 := hfr20 0)); (try (try simp only [show (k111).sz = 3 from rfl, Nat.mul_one, Nat.add_zero] at hf20_0)); (try (clear hcl20 hcc20 hfr20; (try clear hM20))))); refine store_event (t := 3) (p := 34) (v := ?vo_w21) (w1 := (wr.setCell ⟨go15, ((rd l2 x19_1) : Int).toNat * 3, none⟩ (.int .i64 a1))) ?hg ?ho ?hn ?hr ?_; (case ho => rfl); (case hg => rfl); (case hn => rfl); (case hr => first | (go_simp; done) | (go_simp; rfl)); intro w21 hw; have hg : wr.grownBy w21 (some go15) := (by rw [hw]; exact HP20.2); have hp_ : Kd.R k111 111 w21 w.heap.size (fun k_ => k_ ≠ gb225) (.slice (some ⟨go15, 0, none⟩) x9_1.length co15) y229 := (by rw [hw, Ny229.out]; exact HP20.1); clear HP20; have n0_ := Aside0.mk (hp_); have n1_ := Aside0.mk (blk_grown (g := gb225) (o := .cells #[.int .i64 x226000_1, .int .i64 x226001_1, .int .i64 x226002_1] 111 (0, 0)) (by (with_reducible repeat (first | refine blk_drewN ?_ _ | refine blk_drew ?_ | refine blk_alloc ?_ _)); exact BK225.out) hg (Kd.R_away HO_9.out (fun _ hk => hk))); have n2_ := Aside0.mk ((by rw [hw]; exact below_set (HB.out) GB15.out : Below w.heap.size w w21)); clear HO_9; clear BK225; clear HB; have HO_9 := n0_; have BK225 := n1_; have HB := n2_; clear n0_ n1_ n2_; clear hg hw hp_; have p230 : 0 ≤ ((rd l2 x19_1) : Int) := of_decide_eq_true (by first | (with_reducible assumption) | assumption); have q230 : (rd l2 x19_1) < (l0.length : Int) := of_decide_eq_true (by first | (with_reducible assumption) | assumption); obtain ⟨ad230, e230, hx230_0, hx230_1, hx230_2⟩ := at_T111 HR0.out (rd l2 x19_1) p230 q230; obtain rfl : ad228 = ad230 := (by injection e230); replace hx230_0 := (HB.out.cell (World.block_lt_of_cell? w _ hx230_0)).trans hx230_0; replace hx230_1 := (HB.out.cell (World.block_lt_of_cell? w _ hx230_1)).trans hx230_1; replace hx230_2 := (HB.out.cell (World.block_lt_of_cell? w _ hx230_2)).trans hx230_2; replace p230 := eq_true p230; replace q230 := eq_true q230; have hcz22_0 : w21.cell? ⟨gb225, 0, none⟩ = some (.int .i64 x226000_1) := (blk_cell BK225.out 0).trans rfl; have hcz22_1 : w21.cell? ⟨gb225, 1, none⟩ = some (.int .i64 x226001_1) := (blk_cell BK225.out 1).trans rfl; have hcz22_2 : w21.cell? ⟨gb225, 2, none⟩ = some (.int .i64 x226002_1) := (blk_cell BK225.out 2).trans rfl; have hfz22_0 := blk_frozen BK225.out 0; have hfz22_1 := blk_frozen BK225.out 1; have hfz22_2 := blk_frozen BK225.out 2)); try go_wp2_with (first | ((with_reducible refine gate_store (t := 3) (p := 34) rfl ?_); (try (rw [drewN_self wr]; generalize hq_ : World.drewN wr _ = wr; have n0_ := Aside0.mk (Kd.R_at hq_ HO_9.out); have n1_ := Aside0.mk (blk_at hq_ BK225.out); have n2_ := Aside0.mk (below_at hq_ HB.out); clear hq_ HO_9 BK225 HB; have HO_9 := n0_; have BK225 := n1_; have HB := n2_; clear n0_ n1_ n2_; (try (have HX20 := Aside0.mk (show Kd.R k111 111 wr w.heap.size (fun k_ => k_ ≠ gb225) (.slice (some ⟨go15, 0, none⟩) x9_1.length co15) x9_1 from (by (with_reducible repeat (first | apply Kd.R_alloc | apply Kd.R_drewN | apply Kd.R_drew)); exact HO_9.out)))); (try (obtain ⟨ce20, hcl20, hM20, hcc20, hfr20⟩ := Kd.R_elem HX20.out z111 ((rd l2 x19_1) : Int) (of_decide_eq_true (by first | (with_reducible assumption) | assumption)) (by have h_ : ((rd l2 x19_1) : Int) < ((x9_1.length : Int) : Int) := of_decide_eq_true (by first | (with_reducible assumption) | assumption); first | exact h_ | (have e_ := (Kd.R_reads' HO_9.out).1; omega) | simpa using h_))); (try (obtain rfl := k111_openM hM20)); (try (have HP20 := Kd.R_seg HX20.out ((rd l2 x19_1) : Int) (of_decide_eq_true (by first | (with_reducible assumption) | assumption)) (by have h_ : ((rd l2 x19_1) : Int) < ((x9_1.length : Int) : Int) := of_decide_eq_true (by first | (with_reducible assumption) | assumption); first | exact h_ | (have e_ := (Kd.R_reads' HO_9.out).1; omega) | simpa using h_) (seg := [.int .i64 a1]) (j := 0) hcl20 hcc20 (show 1 ≤ 3 from by decide) (x' := (⟨a1, (rd_T111 x9_1 (rd l2 x19_1)).f1, (rd_T111 x9_1 (rd l2 x19_1)).f2⟩ : S111)) (k111_mkM _ _ _ (⟨a1, (rd_T111 x9_1 (rd l2 x19_1)).f1, (rd_T111 x9_1 (rd l2 x19_1)).f2⟩ : S111) ) (fun _ hk => hk))); (try (have hx20_0 := hcc20 0 _ rfl)); (try (try simp only [show (k111).sz = 3 from rfl, Nat.mul_one, Nat.add_zero] at hx20_0)); (try (have hf20_0 := hfr20 0)); (try (try simp only [show (k111).sz = 3 from rfl, Nat.mul_one, Nat.add_zero] at hf20_0)); (try (clear hcl20 hcc20 hfr20; (try clear hM20))))); refine store_event (t := 3) (p := 34) (v := ?vo_w21) (w1 := (wr.setCell ⟨go15, ((rd l2 x19_1) : Int).toNat * 3, none⟩ (.int .i64 a1))) ?hg ?ho ?hn ?hr ?_; (case ho => rfl); (case hg => rfl); (case hn => rfl); (case hr => first | (go_simp; done) | (go_simp; rfl)); intro w21 hw; have hg : wr.grownBy w21 (some go15) := (by rw [hw]; exact HP20.2); have hp_ : Kd.R k111 111 w21 w.heap.size (fun k_ => k_ ≠ gb225) (.slice (some ⟨go15, 0, none⟩) x9_1.length co15) y229 := (by rw [hw, Ny229.out]; exact HP20.1); clear HP20; have n0_ := Aside0.mk (hp_); have n1_ := Aside0.mk (blk_grown (g := gb225) (o := .cells #[.int .i64 x226000_1, .int .i64 x226001_1, .int .i64 x226002_1] 111 (0, 0)) (by (with_reducible repeat (first | refine blk_drewN ?_ _ | refine blk_drew ?_ | refine blk_alloc ?_ _)); exact BK225.out) hg (Kd.R_away HO_9.out (fun _ hk => hk))); have n2_ := Aside0.mk ((by rw [hw]; exact below_set (HB.out) GB15.out : Below w.heap.size w w21)); clear HO_9; clear BK225; clear HB; have HO_9 := n0_; have BK225 := n1_; have HB := n2_; clear n0_ n1_ n2_; clear hg hw hp_; have p230 : 0 ≤ ((rd l2 x19_1) : Int) := of_decide_eq_true (by first | (with_reducible assumption) | assumption); have q230 : (rd l2 x19_1) < (l0.length : Int) := of_decide_eq_true (by first | (with_reducible assumption) | assumption); obtain ⟨ad230, e230, hx230_0, hx230_1, hx230_2⟩ := at_T111 HR0.out (rd l2 x19_1) p230 q230; obtain rfl : ad228 = ad230 := (by injection e230); replace hx230_0 := (HB.out.cell (World.block_lt_of_cell? w _ hx230_0)).trans hx230_0; replace hx230_1 := (HB.out.cell (World.block_lt_of_cell? w _ hx230_1)).trans hx230_1; replace hx230_2 := (HB.out.cell (World.block_lt_of_cell? w _ hx230_2)).trans hx230_2; replace p230 := eq_true p230; replace q230 := eq_true q230; have hcz22_0 : w21.cell? ⟨gb225, 0, none⟩ = some (.int .i64 x226000_1) := (blk_cell BK225.out 0).trans rfl; have hcz22_1 : w21.cell? ⟨gb225, 1, none⟩ = some (.int .i64 x226001_1) := (blk_cell BK225.out 1).trans rfl; have hcz22_2 : w21.cell? ⟨gb225, 2, none⟩ = some (.int .i64 x226002_1) := (blk_cell BK225.out 2).trans rfl; have hfz22_0 := blk_frozen BK225.out 0; have hfz22_1 := blk_frozen BK225.out 1; have hfz22_2 := blk_frozen BK225.out 2)))
           go_roundg k1
           case measure => have := HK1.out; omega
           case rel => exact ⟨(y229), (wrap64 (x10_1 + 1)), (wrap64 (x19_1 + 1)), (x226000_1), (x226001_1), (x226002_1), (by first | rfl | (simp; done) | (simp [*]; done)), (by first | rfl | (simp; done) | (simp [*]; done)), H', ⟨by have := HK1.out; omega⟩, ⟨by (with_reducible repeat (first | apply Kd.R_alloc | apply Kd.R_drewN | apply Kd.R_drew)); exact HO_9.out⟩, ⟨by (with_reducible repeat (first | refine blk_drewN ?_ _ | refine blk_drew ?_ | refine blk_alloc ?_ _)); exact BK225.out⟩, ⟨by repeat (first | (with_reducible first | exact HB.out | apply below_alloc | apply pw_below_drewN | apply below_drew1 | refine below_set ?_ GE225.out) | exact HB.out)⟩⟩
         ·rw [if_neg c14] at H
          exact absurd H (by simp)
       ·rw [if_neg c12] at H
        exact absurd H (by simp)
      ·rw [if_neg c11] at H
       exact absurd H (by simp)
     ·rw [if_neg c10] at H
      exact absurd H (by simp)
    ·rw [if_neg c9] at H
     exact absurd H (by simp)
   ·rw [if_neg c8] at H
    have c8b0 : decide (x19_1 < (l2.length : Int)) = false := decide_eq_false c8
    clear c8
    replace H := Option.bind_eq_some_iff.mp H
    obtain ⟨t226, A230, H⟩ := H
    replace H : (if x10_1 < t226 then (some (x9_1, 0, false)) else (some (x9_1, x226002_1, true))) = some (r1, r2, r3) := H
    have A23 := Aside0.mk A230
    clear A230
    by_cases c24 : x10_1 < t226
    ·rw [if_pos c24] at H
     have c24b0 : decide (x10_1 < t226) = true := decide_eq_true c24
     clear c24
     simp only [Option.some.injEq, Prod.mk.injEq] at H
     obtain ⟨rfl, rfl, rfl⟩ := H
     go_wp2_with (first | (go_at_call 106; (with_reducible refine (impl_slow.calls (l0.length : Int) t226 _ A23.out).mono ?_); rintro e w' ⟨rfl, ⟨nd, rfl⟩⟩; (try first | exact ⟨rfl, _, World.drewN_drewN _ _ _⟩ | exact ⟨rfl, _, Eq.trans (World.drewN_drewN _ _ _) (congrArg (World.drewN _) (Nat.add_assoc _ _ _))⟩)))
     repeat (go_quiet (first | (go_at_call 106; (with_reducible refine (impl_slow.calls (l0.length : Int) t226 _ A23.out).mono ?_); rintro e w' ⟨rfl, ⟨nd, rfl⟩⟩; (try first | exact ⟨rfl, _, World.drewN_drewN _ _ _⟩ | exact ⟨rfl, _, Eq.trans (World.drewN_drewN _ _ _) (congrArg (World.drewN _) (Nat.add_assoc _ _ _))⟩))); try go_wp2_with (first | (go_at_call 106; (with_reducible refine (impl_slow.calls (l0.length : Int) t226 _ A23.out).mono ?_); rintro e w' ⟨rfl, ⟨nd, rfl⟩⟩; (try first | exact ⟨rfl, _, World.drewN_drewN _ _ _⟩ | exact ⟨rfl, _, Eq.trans (World.drewN_drewN _ _ _) (congrArg (World.drewN _) (Nat.add_assoc _ _ _))⟩))))
     go_ret3
     exact ⟨_, by first | rfl | (simp [errW_none, errW_some] <;> rfl) | (simp [*, errW_none, errW_some] <;> rfl), by (with_reducible repeat (first | apply Kd.R_alloc | apply Kd.R_drewN | apply Kd.R_drew)); exact Kd.R_mono HO_9.out (fun _ hk => trivial), by repeat (first | (with_reducible first | exact HB.out | apply below_alloc | apply pw_below_drewN | apply below_drew1 | refine below_set ?_ GE225.out) | exact HB.out)⟩
    ·rw [if_neg c24] at H
     have c24b0 : decide (x10_1 < t226) = false := decide_eq_false c24
     clear c24
     simp only [Option.some.injEq, Prod.mk.injEq] at H
     obtain ⟨rfl, rfl, rfl⟩ := H
     go_wp2_with (first | (go_at_call 106; (with_reducible refine (impl_slow.calls (l0.length : Int) t226 _ A23.out).mono ?_); rintro e w' ⟨rfl, ⟨nd, rfl⟩⟩; (try first | exact ⟨rfl, _, World.drewN_drewN _ _ _⟩ | exact ⟨rfl, _, Eq.trans (World.drewN_drewN _ _ _) (congrArg (World.drewN _) (Nat.add_assoc _ _ _))⟩); have hcz25_0 : wr.cell? ⟨gb225, 0, none⟩ = some (.int .i64 x226000_1) := (blk_cell BK225.out 0).trans rfl; have hcz25_1 : wr.cell? ⟨gb225, 1, none⟩ = some (.int .i64 x226001_1) := (blk_cell BK225.out 1).trans rfl; have hcz25_2 : wr.cell? ⟨gb225, 2, none⟩ = some (.int .i64 x226002_1) := (blk_cell BK225.out 2).trans rfl; have hfz25_0 := blk_frozen BK225.out 0; have hfz25_1 := blk_frozen BK225.out 1; have hfz25_2 := blk_frozen BK225.out 2))
     repeat (go_quiet (first | (go_at_call 106; (with_reducible refine (impl_slow.calls (l0.length : Int) t226 _ A23.out).mono ?_); rintro e w' ⟨rfl, ⟨nd, rfl⟩⟩; (try first | exact ⟨rfl, _, World.drewN_drewN _ _ _⟩ | exact ⟨rfl, _, Eq.trans (World.drewN_drewN _ _ _) (congrArg (World.drewN _) (Nat.add_assoc _ _ _))⟩); have hcz25_0 : wr.cell? ⟨gb225, 0, none⟩ = some (.int .i64 x226000_1) := (blk_cell BK225.out 0).trans rfl; have hcz25_1 : wr.cell? ⟨gb225, 1, none⟩ = some (.int .i64 x226001_1) := (blk_cell BK225.out 1).trans rfl; have hcz25_2 : wr.cell? ⟨gb225, 2, none⟩ = some (.int .i64 x226002_1) := (blk_cell BK225.out 2).trans rfl; have hfz25_0 := blk_frozen BK225.out 0; have hfz25_1 := blk_frozen BK225.out 1; have hfz25_2 := blk_frozen BK225.out 2)); try go_wp2_with (first | (go_at_call 106; (with_reducible refine (impl_slow.calls (l0.length : Int) t226 _ A23.out).mono ?_); rintro e w' ⟨rfl, ⟨nd, rfl⟩⟩; (try first | exact ⟨rfl, _, World.drewN_drewN _ _ _⟩ | exact ⟨rfl, _, Eq.trans (World.drewN_drewN _ _ _) (congrArg (World.drewN _) (Nat.add_assoc _ _ _))⟩); have hcz25_0 : wr.cell? ⟨gb225, 0, none⟩ = some (.int .i64 x226000_1) := (blk_cell BK225.out 0).trans rfl; have hcz25_1 : wr.cell? ⟨gb225, 1, none⟩ = some (.int .i64 x226001_1) := (blk_cell BK225.out 1).trans rfl; have hcz25_2 : wr.cell? ⟨gb225, 2, none⟩ = some (.int .i64 x226002_1) := (blk_cell BK225.out 2).trans rfl; have hfz25_0 := blk_frozen BK225.out 0; have hfz25_1 := blk_frozen BK225.out 1; have hfz25_2 := blk_frozen BK225.out 2)))
     go_ret3
     exact ⟨_, by first | rfl | (simp [errW_none, errW_some] <;> rfl) | (simp [*, errW_none, errW_some] <;> rfl), by (with_reducible repeat (first | apply Kd.R_alloc | apply Kd.R_drewN | apply Kd.R_drew)); exact Kd.R_mono HO_9.out (fun _ hk => trivial), by repeat (first | (with_reducible first | exact HB.out | apply below_alloc | apply pw_below_drewN | apply below_drew1 | refine below_set ?_ GE225.out) | exact HB.out)⟩

end Go.Proofs.Ytlabpbkeaelecaa.PFnExactRunBallot
