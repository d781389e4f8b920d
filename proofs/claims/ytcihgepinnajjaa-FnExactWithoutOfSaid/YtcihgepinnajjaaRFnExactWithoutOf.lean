-- Written for this claim by the session's own program (drive.py), over the kit's print, with contracts typed by hand.
import Derived.Test.YtcihgepinnajjaaPFnExactWithoutOfx1
import Derived.Test.YtcihgepinnajjaaPFnExactWithoutOfx2
import Derived.Test.YtcihgepinnajjaaPFnExactWithoutOfx3
import Derived.Test.YtcihgepinnajjaaPFnExactWithoutOfx4
import Derived.Test.YtcihgepinnajjaaPFnExactWithoutOfx5
import Derived.Test.YtcihgepinnajjaaPFnExactWithoutOfx6
import Derived.Test.YtcihgepinnajjaaPFnExactWithoutOfx7
import Derived.Test.YtcihgepinnajjaaPFnExactWithoutOfx8
import Derived.Test.YtcihgepinnajjaaPFnExactWithoutOfx9
import Derived.Test.YtcihgepinnajjaaVOpen
namespace Go.Proofs.Ytcihgepinnajjaa.PFnExactWithoutOf
open Go.RowKit Go.Proofs.YtcihgepinnajjaaW.PrintWords Go.Proofs.YtcihgepinnajjaaW.PrintLast Go.Proofs.YtcihgepinnajjaaW.PrintMore Go.Proofs.Ytcihgepinnajjaa.Opens
attribute [local go_sem] max2_int min2_int max_two min_two max_three min_three max_four min_four
set_option linter.unusedVariables false
set_option linter.unusedSimpArgs false
/-- What the law's calls answer, on the ways that return true. -/
def laws_FnExactWithoutOf.Pass (k : Nat) (l0_0 : List Int) (l0_1 : List (List Int)) (l1_0 : List Int) (l1_1 : List (List Int)) : Prop := ∃ (t1 : Int), (laws_szRelation.f k l0_0 l0_1 1048576 = some t1) ∧ (t1 < 0 ∨ (¬ t1 < 0 ∧ ∃ (t2 : Int), (laws_szRelation.f k l1_0 l1_1 t1 = some t2) ∧ (t2 < 0 ∨ (¬ t2 < 0 ∧ ∃ (t3 : List Int) (t4 : List (List Int)) (t5 : List Int) (t6 : List (List Int)) (t9 : List Int) (t10 : List (List Int)) (t11 : Bool) (t87 : Int) (z88 : List Int) (z89 : List (List Int)) (t98 : Int) (z99 : List Int) (z100 : List (List Int)) (t117 : Int) (z118 : List Int) (z119 : List (List Int)), (laws_toRelation.f k l0_0 l0_1 = some (t3, t4)) ∧ (laws_toRelation.f k l1_0 l1_1 = some (t5, t6)) ∧ (spec_WithoutOf.f k t3 t4 t5 t6 = some (t9, t10, t11)) ∧ (impl_WithoutOf.f k t3 t4 t5 t6 = some (t9, t10, t11)) ∧ (laws_eqRelation.f k t9 t10 t9 t10 = some true) ∧ (laws_eqRelation.f k t3 t4 t3 t4 = some true) ∧ (laws_eqRelation.f k t5 t6 t5 t6 = some true) ∧ (laws_markRelation.f k t3 t4 1 = some (t87, z88, z89)) ∧ (laws_markRelation.f k t5 t6 t87 = some (t98, z99, z100)) ∧ (laws_markRelation.f k t9 t10 1 = some (t117, z118, z119)) ∧ (laws_heldRelation.f k z118 z119 1 = some t117) ∧ (¬ t98 < 0) ∧ (¬ t117 < 0)))))
/-- The world gets a letter, of which the facts of Φ are known. -/
theorem letter_ {P : Program} {ops : Array Oper} {Q : Exit → Act → World → Prop} {md : Region.Mode} {S : World → Prop} {ds : List Nat} {fuel : Nat} {l : Array Bool} {a : Act} {w : World} (Φ : World → Prop) (hΦ : Φ w) (h : ∀ w', Φ w' → wpAnyLast P md ops Q S ds fuel l a w') : wpAnyLast P md ops Q S ds fuel l a w := h w hΦ
set_option maxHeartbeats 16000000 in
set_option maxRecDepth 100000 in
theorem laws_FnExactWithoutOf.calls (k : Nat) (A0_0 : Option Addr) (c0_0 : Nat) (l0_0 : List Int) (A0_1 : Option Addr) (c0_1 : Nat) (l0_1 : List (List Int)) (A1_0 : Option Addr) (c1_0 : Nat) (l1_0 : List Int) (A1_1 : Option Addr) (c1_1 : Nat) (l1_1 : List (List Int)) (w : World) (hr0_0 : Kd.C (Kd.int .i64) w A0_0 l0_0.length l0_0) (hc0_0 : l0_0.length ≤ c0_0) (hr0_1 : Kd.C (Kd.slice 3 (Kd.int .i64)) w A0_1 l0_1.length l0_1) (hc0_1 : l0_1.length ≤ c0_1) (hr1_0 : Kd.C (Kd.int .i64) w A1_0 l1_0.length l1_0) (hc1_0 : l1_0.length ≤ c1_0) (hr1_1 : Kd.C (Kd.slice 3 (Kd.int .i64)) w A1_1 l1_1.length l1_1) (hc1_1 : l1_1.length ≤ c1_1) (h : laws_FnExactWithoutOf.Pass k l0_0 l0_1 l1_0 l1_1) :
  Calls Try.prog 6 #[.agg #[.slice A0_0 l0_0.length c0_0, .slice A0_1 l0_1.length c0_1], .agg #[.slice A1_0 l1_0.length c1_0, .slice A1_1 l1_1.length c1_1]] w fun e w' => e = .returned (.bool true) ∧ Below w.heap.size w w' := by
 have HB := Aside0.mk (Below.refl w.heap.size w)
 have HR0_0 := Aside0.mk hr0_0
 have HC0_0 := Aside0.mk hc0_0
 clear hr0_0 hc0_0
 have HR0_1 := Aside0.mk hr0_1
 have HC0_1 := Aside0.mk hc0_1
 clear hr0_1 hc0_1
 have HR1_0 := Aside0.mk hr1_0
 have HC1_0 := Aside0.mk hc1_0
 clear hr1_0 hc1_0
 have HR1_1 := Aside0.mk hr1_1
 have HC1_1 := Aside0.mk hc1_1
 clear hr1_1 hc1_1
 unfold laws_FnExactWithoutOf.Pass at h
 obtain ⟨t1, d0, h⟩ := h
 have D0 := Aside0.mk d0
 clear d0
 rcases h with cc0 | ⟨cc0, h⟩
 ·have b0 := decide_eq_true cc0
  clear cc0
  go_enter Try.func6, Try.ntmps6
  go_wp2_with (first | ((first | ((with_reducible refine gate_callee (f := 19) rfl ?_); refine goesL_ (some 19) rfl rfl Try.func19 (by kernel_rfl) rfl #[.agg #[.slice A0_0 l0_0.length c0_0, .slice A0_1 l0_1.length c0_1], .int .i64 1048576] rfl (by (try simp only [List.map_toArray, List.map_cons, List.map_nil]); first | done | rfl | (simp only [List.length_drop, List.length_take]; rfl)) ?_) | go_at_call 19); (with_reducible refine (laws_szRelation.calls k _ _ l0_0 _ _ l0_1 1048576 t1 _ ?side1 ?side2 ?side3 ?side4 D0.out).mono ?_); (case side1 => exact Kd.C_below HR0_0.out (by repeat first | exact HB.out | apply below_alloc | apply pw_below_drewN | apply below_drew1)); (case side2 => exact HC0_0.out); (case side3 => exact Kd.C_below HR0_1.out (by repeat first | exact HB.out | apply below_alloc | apply pw_below_drewN | apply below_drew1)); (case side4 => exact HC0_1.out); rintro e w1 ⟨rfl, hb⟩; (try refine ⟨_, rfl, ?_⟩); have hp1 : (w.heap.size + 2) ≤ _ := Nat.le_trans (by first | exact Nat.le_refl _ | (simp; done) | (simp; omega)) hb.size; have hq1 : (w.heap.size + 2) ≤ w1.heap.size := hp1; have hn := below_step (w := w) (by repeat (first | exact Below.refl _ _ | (with_reducible first | apply below_alloc | apply pw_below_drewN | apply below_drew1))) hb; have hs1 := below_size hn; have hq := Aside0.mk (below_step (by repeat first | exact HB.out | apply below_alloc | apply pw_below_drewN | apply below_drew1) hb); have NBK0 := Aside0.mk (blk_below (g := w.heap.size) (o := .cells #[.slice A0_0 l0_0.length c0_0, .slice A0_1 l0_1.length c0_1] 42 (0, 0)) (by first | (simp; done) | (first | exact h_alloc2_old _ _ _ | exact h_alloc2_new _ _ _)) hb); have NBK1 := Aside0.mk (blk_below (g := (w.heap.size + 1)) (o := .cells #[.slice A1_0 l1_0.length c1_0, .slice A1_1 l1_1.length c1_1] 42 (0, 0)) (by first | (simp; done) | (first | exact h_alloc2_old _ _ _ | exact h_alloc2_new _ _ _)) hb); (try clear BK0); have BK0 := NBK0; clear NBK0; (try clear hlb0); have hlb0 : w.heap.size < w1.heap.size := blk_lt BK0.out; (try clear cb0_0); have cb0_0 : w1.cell? ⟨w.heap.size, 0, none⟩ = some (.slice A0_0 l0_0.length c0_0) := (blk_cell BK0.out 0).trans rfl; (try clear cb0_1); have cb0_1 : w1.cell? ⟨w.heap.size, 1, none⟩ = some (.slice A0_1 l0_1.length c0_1) := (blk_cell BK0.out 1).trans rfl; (try clear BK1); have BK1 := NBK1; clear NBK1; (try clear hlb1); have hlb1 : (w.heap.size + 1) < w1.heap.size := blk_lt BK1.out; (try clear cb1_0); have cb1_0 : w1.cell? ⟨(w.heap.size + 1), 0, none⟩ = some (.slice A1_0 l1_0.length c1_0) := (blk_cell BK1.out 0).trans rfl; (try clear cb1_1); have cb1_1 : w1.cell? ⟨(w.heap.size + 1), 1, none⟩ = some (.slice A1_1 l1_1.length c1_1) := (blk_cell BK1.out 1).trans rfl; clear HB ; have HB := hq; clear hq hn hb ))
  (try go_wp2)
  go_ret
  exact ⟨by first | rfl | (simp; done) | (simp [*]; done), by repeat first | exact HB.out | apply below_alloc | apply pw_below_drewN | apply below_drew1⟩
 have b0 := decide_eq_false cc0
 clear cc0
 obtain ⟨t2, d1, h⟩ := h
 have D1 := Aside0.mk d1
 clear d1
 rcases h with cc1 | ⟨cc1, h⟩
 ·have b1 := decide_eq_true cc1
  clear cc1
  go_enter Try.func6, Try.ntmps6
  go_wp2_with (first | ((first | ((with_reducible refine gate_callee (f := 19) rfl ?_); refine goesL_ (some 19) rfl rfl Try.func19 (by kernel_rfl) rfl #[.agg #[.slice A0_0 l0_0.length c0_0, .slice A0_1 l0_1.length c0_1], .int .i64 1048576] rfl (by (try simp only [List.map_toArray, List.map_cons, List.map_nil]); first | done | rfl | (simp only [List.length_drop, List.length_take]; rfl)) ?_) | go_at_call 19); (with_reducible refine (laws_szRelation.calls k _ _ l0_0 _ _ l0_1 1048576 t1 _ ?side1 ?side2 ?side3 ?side4 D0.out).mono ?_); (case side1 => exact Kd.C_below HR0_0.out (by repeat first | exact HB.out | apply below_alloc | apply pw_below_drewN | apply below_drew1)); (case side2 => exact HC0_0.out); (case side3 => exact Kd.C_below HR0_1.out (by repeat first | exact HB.out | apply below_alloc | apply pw_below_drewN | apply below_drew1)); (case side4 => exact HC0_1.out); rintro e w1 ⟨rfl, hb⟩; (try refine ⟨_, rfl, ?_⟩); have hp1 : (w.heap.size + 2) ≤ _ := Nat.le_trans (by first | exact Nat.le_refl _ | (simp; done) | (simp; omega)) hb.size; have hq1 : (w.heap.size + 2) ≤ w1.heap.size := hp1; have hn := below_step (w := w) (by repeat (first | exact Below.refl _ _ | (with_reducible first | apply below_alloc | apply pw_below_drewN | apply below_drew1))) hb; have hs1 := below_size hn; have hq := Aside0.mk (below_step (by repeat first | exact HB.out | apply below_alloc | apply pw_below_drewN | apply below_drew1) hb); have NBK0 := Aside0.mk (blk_below (g := w.heap.size) (o := .cells #[.slice A0_0 l0_0.length c0_0, .slice A0_1 l0_1.length c0_1] 42 (0, 0)) (by first | (simp; done) | (first | exact h_alloc2_old _ _ _ | exact h_alloc2_new _ _ _)) hb); have NBK1 := Aside0.mk (blk_below (g := (w.heap.size + 1)) (o := .cells #[.slice A1_0 l1_0.length c1_0, .slice A1_1 l1_1.length c1_1] 42 (0, 0)) (by first | (simp; done) | (first | exact h_alloc2_old _ _ _ | exact h_alloc2_new _ _ _)) hb); (try clear BK0); have BK0 := NBK0; clear NBK0; (try clear hlb0); have hlb0 : w.heap.size < w1.heap.size := blk_lt BK0.out; (try clear cb0_0); have cb0_0 : w1.cell? ⟨w.heap.size, 0, none⟩ = some (.slice A0_0 l0_0.length c0_0) := (blk_cell BK0.out 0).trans rfl; (try clear cb0_1); have cb0_1 : w1.cell? ⟨w.heap.size, 1, none⟩ = some (.slice A0_1 l0_1.length c0_1) := (blk_cell BK0.out 1).trans rfl; (try clear BK1); have BK1 := NBK1; clear NBK1; (try clear hlb1); have hlb1 : (w.heap.size + 1) < w1.heap.size := blk_lt BK1.out; (try clear cb1_0); have cb1_0 : w1.cell? ⟨(w.heap.size + 1), 0, none⟩ = some (.slice A1_0 l1_0.length c1_0) := (blk_cell BK1.out 0).trans rfl; (try clear cb1_1); have cb1_1 : w1.cell? ⟨(w.heap.size + 1), 1, none⟩ = some (.slice A1_1 l1_1.length c1_1) := (blk_cell BK1.out 1).trans rfl; clear HB ; have HB := hq; clear hq hn hb ) | ((first | ((with_reducible refine gate_callee (f := 19) rfl ?_); refine goesL_ (some 24) rfl rfl Try.func19 (by kernel_rfl) rfl #[.agg #[.slice A1_0 l1_0.length c1_0, .slice A1_1 l1_1.length c1_1], .int .i64 t1] rfl (by (try simp only [List.map_toArray, List.map_cons, List.map_nil]); first | done | rfl | (simp only [List.length_drop, List.length_take]; rfl)) ?_) | go_at_call 19); (with_reducible refine (laws_szRelation.calls k _ _ l1_0 _ _ l1_1 t1 t2 _ ?side1 ?side2 ?side3 ?side4 D1.out).mono ?_); (case side1 => exact Kd.C_below HR1_0.out (by repeat first | exact HB.out | apply below_alloc | apply pw_below_drewN | apply below_drew1)); (case side2 => exact HC1_0.out); (case side3 => exact Kd.C_below HR1_1.out (by repeat first | exact HB.out | apply below_alloc | apply pw_below_drewN | apply below_drew1)); (case side4 => exact HC1_1.out); rintro e w2 ⟨rfl, hb⟩; (try refine ⟨_, rfl, ?_⟩); have hn := below_step (w := w1) (by repeat (first | exact Below.refl _ _ | (with_reducible first | apply below_alloc | apply pw_below_drewN | apply below_drew1))) hb; have hs2 := below_size hn; have hq := Aside0.mk (below_step (by repeat first | exact HB.out | apply below_alloc | apply pw_below_drewN | apply below_drew1) hb); have NBK0 := Aside0.mk (blk_below (g := w.heap.size) (o := .cells #[.slice A0_0 l0_0.length c0_0, .slice A0_1 l0_1.length c0_1] 42 (0, 0)) (by (with_reducible repeat (first | refine blk_drewN ?_ _ | refine blk_drew ?_ | refine blk_alloc ?_ _)); exact BK0.out) hb); have NBK1 := Aside0.mk (blk_below (g := (w.heap.size + 1)) (o := .cells #[.slice A1_0 l1_0.length c1_0, .slice A1_1 l1_1.length c1_1] 42 (0, 0)) (by (with_reducible repeat (first | refine blk_drewN ?_ _ | refine blk_drew ?_ | refine blk_alloc ?_ _)); exact BK1.out) hb); (try clear BK0); have BK0 := NBK0; clear NBK0; (try clear hlb0); have hlb0 : w.heap.size < w2.heap.size := blk_lt BK0.out; (try clear cb0_0); have cb0_0 : w2.cell? ⟨w.heap.size, 0, none⟩ = some (.slice A0_0 l0_0.length c0_0) := (blk_cell BK0.out 0).trans rfl; (try clear cb0_1); have cb0_1 : w2.cell? ⟨w.heap.size, 1, none⟩ = some (.slice A0_1 l0_1.length c0_1) := (blk_cell BK0.out 1).trans rfl; (try clear BK1); have BK1 := NBK1; clear NBK1; (try clear hlb1); have hlb1 : (w.heap.size + 1) < w2.heap.size := blk_lt BK1.out; (try clear cb1_0); have cb1_0 : w2.cell? ⟨(w.heap.size + 1), 0, none⟩ = some (.slice A1_0 l1_0.length c1_0) := (blk_cell BK1.out 0).trans rfl; (try clear cb1_1); have cb1_1 : w2.cell? ⟨(w.heap.size + 1), 1, none⟩ = some (.slice A1_1 l1_1.length c1_1) := (blk_cell BK1.out 1).trans rfl; clear HB ; have HB := hq; clear hq hn hb ))
  (try go_wp2)
  go_ret
  exact ⟨by first | rfl | (simp; done) | (simp [*]; done), by repeat first | exact HB.out | apply below_alloc | apply pw_below_drewN | apply below_drew1⟩
 have b1 := decide_eq_false cc1
 clear cc1
 obtain ⟨t3, t4, t5, t6, t9, t10, t11, t87, z88, z89, t98, z99, z100, t117, z118, z119, d2, d3, d4, d5, d6, d7, d8, d9, d10, d11, d12, e0, e1⟩ := h
 have D2 := Aside0.mk d2
 have D3 := Aside0.mk d3
 have D4 := Aside0.mk d4
 have D5 := Aside0.mk d5
 have D6 := Aside0.mk d6
 have D7 := Aside0.mk d7
 have D8 := Aside0.mk d8
 have D9 := Aside0.mk d9
 have D10 := Aside0.mk d10
 have D11 := Aside0.mk d11
 have D12 := Aside0.mk d12
 clear d2 d3 d4 d5 d6 d7 d8 d9 d10 d11 d12
 have f0 := decide_eq_false e0
 have f1 := decide_eq_false e1
 have y0 : (t11 != t11) = false := by simp
 have y1 : (t117 != t117) = false := by simp
 go_enter Try.func6, Try.ntmps6
 go_wp2_with (first | ((first | ((with_reducible refine gate_callee (f := 19) rfl ?_); refine goesL_ (some 19) rfl rfl Try.func19 (by kernel_rfl) rfl #[.agg #[.slice A0_0 l0_0.length c0_0, .slice A0_1 l0_1.length c0_1], .int .i64 1048576] rfl (by (try simp only [List.map_toArray, List.map_cons, List.map_nil]); first | done | rfl | (simp only [List.length_drop, List.length_take]; rfl)) ?_) | go_at_call 19); (with_reducible refine (laws_szRelation.calls k _ _ l0_0 _ _ l0_1 1048576 t1 _ ?side1 ?side2 ?side3 ?side4 D0.out).mono ?_); (case side1 => exact Kd.C_below HR0_0.out (by repeat first | exact HB.out | apply below_alloc | apply pw_below_drewN | apply below_drew1)); (case side2 => exact HC0_0.out); (case side3 => exact Kd.C_below HR0_1.out (by repeat first | exact HB.out | apply below_alloc | apply pw_below_drewN | apply below_drew1)); (case side4 => exact HC0_1.out); rintro e w1 ⟨rfl, hb⟩; (try refine ⟨_, rfl, ?_⟩); have hp1 : (w.heap.size + 2) ≤ _ := Nat.le_trans (by first | exact Nat.le_refl _ | (simp; done) | (simp; omega)) hb.size; have hq1 : (w.heap.size + 2) ≤ w1.heap.size := hp1; have hn := below_step (w := w) (by repeat (first | exact Below.refl _ _ | (with_reducible first | apply below_alloc | apply pw_below_drewN | apply below_drew1))) hb; have hs1 := below_size hn; have hq := Aside0.mk (below_step (by repeat first | exact HB.out | apply below_alloc | apply pw_below_drewN | apply below_drew1) hb); have NBK0 := Aside0.mk (blk_below (g := w.heap.size) (o := .cells #[.slice A0_0 l0_0.length c0_0, .slice A0_1 l0_1.length c0_1] 42 (0, 0)) (by first | (simp; done) | (first | exact h_alloc2_old _ _ _ | exact h_alloc2_new _ _ _)) hb); have NBK1 := Aside0.mk (blk_below (g := (w.heap.size + 1)) (o := .cells #[.slice A1_0 l1_0.length c1_0, .slice A1_1 l1_1.length c1_1] 42 (0, 0)) (by first | (simp; done) | (first | exact h_alloc2_old _ _ _ | exact h_alloc2_new _ _ _)) hb); (try clear BK0); have BK0 := NBK0; clear NBK0; (try clear hlb0); have hlb0 : w.heap.size < w1.heap.size := blk_lt BK0.out; (try clear cb0_0); have cb0_0 : w1.cell? ⟨w.heap.size, 0, none⟩ = some (.slice A0_0 l0_0.length c0_0) := (blk_cell BK0.out 0).trans rfl; (try clear cb0_1); have cb0_1 : w1.cell? ⟨w.heap.size, 1, none⟩ = some (.slice A0_1 l0_1.length c0_1) := (blk_cell BK0.out 1).trans rfl; (try clear BK1); have BK1 := NBK1; clear NBK1; (try clear hlb1); have hlb1 : (w.heap.size + 1) < w1.heap.size := blk_lt BK1.out; (try clear cb1_0); have cb1_0 : w1.cell? ⟨(w.heap.size + 1), 0, none⟩ = some (.slice A1_0 l1_0.length c1_0) := (blk_cell BK1.out 0).trans rfl; (try clear cb1_1); have cb1_1 : w1.cell? ⟨(w.heap.size + 1), 1, none⟩ = some (.slice A1_1 l1_1.length c1_1) := (blk_cell BK1.out 1).trans rfl; clear HB ; have HB := hq; clear hq hn hb ) | ((first | ((with_reducible refine gate_callee (f := 19) rfl ?_); refine goesL_ (some 24) rfl rfl Try.func19 (by kernel_rfl) rfl #[.agg #[.slice A1_0 l1_0.length c1_0, .slice A1_1 l1_1.length c1_1], .int .i64 t1] rfl (by (try simp only [List.map_toArray, List.map_cons, List.map_nil]); first | done | rfl | (simp only [List.length_drop, List.length_take]; rfl)) ?_) | go_at_call 19); (with_reducible refine (laws_szRelation.calls k _ _ l1_0 _ _ l1_1 t1 t2 _ ?side1 ?side2 ?side3 ?side4 D1.out).mono ?_); (case side1 => exact Kd.C_below HR1_0.out (by repeat first | exact HB.out | apply below_alloc | apply pw_below_drewN | apply below_drew1)); (case side2 => exact HC1_0.out); (case side3 => exact Kd.C_below HR1_1.out (by repeat first | exact HB.out | apply below_alloc | apply pw_below_drewN | apply below_drew1)); (case side4 => exact HC1_1.out); rintro e w2 ⟨rfl, hb⟩; (try refine ⟨_, rfl, ?_⟩); have hn := below_step (w := w1) (by repeat (first | exact Below.refl _ _ | (with_reducible first | apply below_alloc | apply pw_below_drewN | apply below_drew1))) hb; have hs2 := below_size hn; have hq := Aside0.mk (below_step (by repeat first | exact HB.out | apply below_alloc | apply pw_below_drewN | apply below_drew1) hb); have NBK0 := Aside0.mk (blk_below (g := w.heap.size) (o := .cells #[.slice A0_0 l0_0.length c0_0, .slice A0_1 l0_1.length c0_1] 42 (0, 0)) (by (with_reducible repeat (first | refine blk_drewN ?_ _ | refine blk_drew ?_ | refine blk_alloc ?_ _)); exact BK0.out) hb); have NBK1 := Aside0.mk (blk_below (g := (w.heap.size + 1)) (o := .cells #[.slice A1_0 l1_0.length c1_0, .slice A1_1 l1_1.length c1_1] 42 (0, 0)) (by (with_reducible repeat (first | refine blk_drewN ?_ _ | refine blk_drew ?_ | refine blk_alloc ?_ _)); exact BK1.out) hb); (try clear BK0); have BK0 := NBK0; clear NBK0; (try clear hlb0); have hlb0 : w.heap.size < w2.heap.size := blk_lt BK0.out; (try clear cb0_0); have cb0_0 : w2.cell? ⟨w.heap.size, 0, none⟩ = some (.slice A0_0 l0_0.length c0_0) := (blk_cell BK0.out 0).trans rfl; (try clear cb0_1); have cb0_1 : w2.cell? ⟨w.heap.size, 1, none⟩ = some (.slice A0_1 l0_1.length c0_1) := (blk_cell BK0.out 1).trans rfl; (try clear BK1); have BK1 := NBK1; clear NBK1; (try clear hlb1); have hlb1 : (w.heap.size + 1) < w2.heap.size := blk_lt BK1.out; (try clear cb1_0); have cb1_0 : w2.cell? ⟨(w.heap.size + 1), 0, none⟩ = some (.slice A1_0 l1_0.length c1_0) := (blk_cell BK1.out 0).trans rfl; (try clear cb1_1); have cb1_1 : w2.cell? ⟨(w.heap.size + 1), 1, none⟩ = some (.slice A1_1 l1_1.length c1_1) := (blk_cell BK1.out 1).trans rfl; clear HB ; have HB := hq; clear hq hn hb ))
 refine start_ (n := 11) (S := fun w' => w'.cell? ⟨w.heap.size, 0, none⟩ = some (.slice A0_0 l0_0.length c0_0) ∧ w'.cell? ⟨w.heap.size, 1, none⟩ = some (.slice A0_1 l0_1.length c0_1) ∧ w'.cell? ⟨(w.heap.size + 1), 0, none⟩ = some (.slice A1_0 l1_0.length c1_0) ∧ w'.cell? ⟨(w.heap.size + 1), 1, none⟩ = some (.slice A1_1 l1_1.length c1_1)) (ds := [9]) #[false, false, false, false, false, false, false, false, false, false, false] (by kernel_rfl) rfl rfl ⟨(blk_cell (by first | exact BK0.out | exact blk_drew BK0.out | exact blk_drewN BK0.out _ | exact h_alloc2_old _ _ _ | exact h_alloc2_new _ _ _ | exact heap_alloc_new _ _) 0).trans rfl, (blk_cell (by first | exact BK0.out | exact blk_drew BK0.out | exact blk_drewN BK0.out _ | exact h_alloc2_old _ _ _ | exact h_alloc2_new _ _ _ | exact heap_alloc_new _ _) 1).trans rfl, (blk_cell (by first | exact BK1.out | exact blk_drew BK1.out | exact blk_drewN BK1.out _ | exact h_alloc2_old _ _ _ | exact h_alloc2_new _ _ _ | exact heap_alloc_new _ _) 0).trans rfl, (blk_cell (by first | exact BK1.out | exact blk_drew BK1.out | exact blk_drewN BK1.out _ | exact h_alloc2_old _ _ _ | exact h_alloc2_new _ _ _ | exact heap_alloc_new _ _) 1).trans rfl⟩ (fun hHeld => ?_)
 refine letter_ (fun w' => Below w2.heap.size w2 w' ∧ w2.heap.size + 0 ≤ w'.heap.size ∧ w'.heap[w.heap.size]? = some (.cells #[.slice A0_0 l0_0.length c0_0, .slice A0_1 l0_1.length c0_1] 42 (0, 0)) ∧ w'.heap[(w.heap.size + 1)]? = some (.cells #[.slice A1_0 l1_0.length c1_0, .slice A1_1 l1_1.length c1_1] 42 (0, 0))) ⟨by repeat (first | exact Below.refl _ _ | (with_reducible first | apply below_alloc | apply pw_below_drewN | apply below_drew1)), (by first | exact below_size (by repeat (first | exact Below.refl _ _ | (with_reducible first | apply below_alloc | apply pw_below_drewN | apply below_drew1))) | (simp; done) | (simp; omega)), (by (with_reducible repeat (first | refine blk_drewN ?_ _ | refine blk_drew ?_ | refine blk_alloc ?_ _)); exact BK0.out), (by (with_reducible repeat (first | refine blk_drewN ?_ _ | refine blk_drew ?_ | refine blk_alloc ?_ _)); exact BK1.out)⟩ ?_
 clear hHeld
 rintro w3 ⟨hn, hq3, hBK0, hBK1⟩
 have hs3 := below_size hn
 have NHB := Aside0.mk (below_step HB.out hn)
 (try clear BK0)
 have BK0 := Aside0.mk hBK0
 clear hBK0
 (try clear hlb0)
 have hlb0 : w.heap.size < w3.heap.size := blk_lt BK0.out
 (try clear BK1)
 have BK1 := Aside0.mk hBK1
 clear hBK1
 (try clear hlb1)
 have hlb1 : (w.heap.size + 1) < w3.heap.size := blk_lt BK1.out
 clear HB 
 have HB := NHB
 clear NHB hn
 have hHeld : w3.cell? ⟨w.heap.size, 0, none⟩ = some (.slice A0_0 l0_0.length c0_0) ∧ w3.cell? ⟨w.heap.size, 1, none⟩ = some (.slice A0_1 l0_1.length c0_1) ∧ w3.cell? ⟨(w.heap.size + 1), 0, none⟩ = some (.slice A1_0 l1_0.length c1_0) ∧ w3.cell? ⟨(w.heap.size + 1), 1, none⟩ = some (.slice A1_1 l1_1.length c1_1) := ⟨(blk_cell BK0.out 0).trans rfl, (blk_cell BK0.out 1).trans rfl, (blk_cell BK1.out 0).trans rfl, (blk_cell BK1.out 1).trans rfl⟩
 refine take_ (i := 0) (N := some 28) (v := ?_) (a' := ?_) #[true, false, false, false, false, false, false, false, false, false, false] rfl rfl (by kernel_rfl) (fun _ _ _ h => h) (Or.inl ⟨by rfl, ?_⟩) hHeld ?_ ?_
 rotate_left
 ·rintro w' ⟨s0, s1, s2, s3⟩
  go_simp
  with_reducible rfl
 rotate_left
 ·simp only [Act.put, List.setIfInBounds_toArray, List.set_cons_zero, List.set_cons_succ, i64_w, i32_w]
  rfl
 refine take_ (i := 2) (N := some 30) (v := ?_) (a' := ?_) #[true, false, true, false, false, false, false, false, false, false, false] rfl rfl (by kernel_rfl) (fun _ _ _ h => h) (Or.inl ⟨by rfl, ?_⟩) hHeld ?_ ?_
 rotate_left
 ·rintro w' ⟨s0, s1, s2, s3⟩
  go_simp
  with_reducible rfl
 rotate_left
 ·simp only [Act.put, List.setIfInBounds_toArray, List.set_cons_zero, List.set_cons_succ, i64_w, i32_w]
  rfl
 refine join_ (σ := World × World × World × Option Addr × Nat × Option Addr × Nat × Option Addr × Nat × Option Addr × Nat × Option Addr × Nat × Option Addr × Nat × Nat) 2 #[true, true, true, true, true, true, true, true, true, false, false] (fun s => [(29, (.agg #[.slice s.2.2.2.1 t3.length s.2.2.2.2.1, .slice s.2.2.2.2.2.1 t4.length s.2.2.2.2.2.2.1] : Value)), (31, (.agg #[.slice s.2.2.2.2.2.2.2.1 t5.length s.2.2.2.2.2.2.2.2.1, .slice s.2.2.2.2.2.2.2.2.2.1 t6.length s.2.2.2.2.2.2.2.2.2.2.1] : Value)), (32, (.tuple #[.agg #[.slice s.2.2.2.2.2.2.2.2.2.2.2.1 t9.length s.2.2.2.2.2.2.2.2.2.2.2.2.1, .slice s.2.2.2.2.2.2.2.2.2.2.2.2.2.1 t10.length s.2.2.2.2.2.2.2.2.2.2.2.2.2.2.1], .bool t11] : Value)), (6, (.pointer (some ⟨s.2.2.2.2.2.2.2.2.2.2.2.2.2.2.2, 0, none⟩) : Value)), (27, (.tuple #[.agg #[.slice s.2.2.2.2.2.2.2.2.2.2.2.1 t9.length s.2.2.2.2.2.2.2.2.2.2.2.2.1, .slice s.2.2.2.2.2.2.2.2.2.2.2.2.2.1 t10.length s.2.2.2.2.2.2.2.2.2.2.2.2.2.2.1], .bool t11] : Value)), (33, (.agg #[.slice s.2.2.2.2.2.2.2.2.2.2.2.1 t9.length s.2.2.2.2.2.2.2.2.2.2.2.2.1, .slice s.2.2.2.2.2.2.2.2.2.2.2.2.2.1 t10.length s.2.2.2.2.2.2.2.2.2.2.2.2.2.2.1] : Value)), (34, (.bool t11 : Value))]) (fun s w' => w3.heap.size ≤ s.1.heap.size ∧ s.1.heap.size ≤ s.2.1.heap.size ∧ s.2.1.heap.size ≤ s.2.2.1.heap.size ∧ s.2.2.1.heap.size ≤ w'.heap.size ∧ w3.heap.size ≤ s.2.2.2.2.2.2.2.2.2.2.2.2.2.2.2 ∧ s.2.2.2.2.2.2.2.2.2.2.2.2.2.2.2 < w'.heap.size ∧ w'.heap[s.2.2.2.2.2.2.2.2.2.2.2.2.2.2.2]? = some (.cells #[.slice none 0 0, .slice none 0 0] 44 (0, 0)) ∧ Below w.heap.size w w' ∧ Kd.R (Kd.int .i64) 3 w' w.heap.size (fun k_ => (w3.heap.size ≤ k_ ∧ k_ < s.1.heap.size) ∧ ((True) ∧ k_ ≠ s.2.2.2.2.2.2.2.2.2.2.2.2.2.2.2)) (.slice s.2.2.2.1 t3.length s.2.2.2.2.1) t3 ∧ Kd.R (Kd.int .i64) 3 w' w.heap.size (fun k_ => (s.1.heap.size ≤ k_ ∧ k_ < s.2.1.heap.size) ∧ ((True) ∧ k_ ≠ s.2.2.2.2.2.2.2.2.2.2.2.2.2.2.2)) (.slice s.2.2.2.2.2.2.2.1 t5.length s.2.2.2.2.2.2.2.2.1) t5 ∧ Kd.S (Kd.slice 3 (Kd.int .i64)) 39 w' w.heap.size (fun k_ => (s.1.heap.size ≤ k_ ∧ k_ < s.2.1.heap.size) ∧ ((some k_ ≠ (.slice s.2.2.2.2.2.2.2.1 t5.length s.2.2.2.2.2.2.2.2.1 : Value).ownBlock) ∧ k_ ≠ s.2.2.2.2.2.2.2.2.2.2.2.2.2.2.2)) (.slice s.2.2.2.2.2.2.2.2.2.1 t6.length s.2.2.2.2.2.2.2.2.2.2.1) t6 ∧ Kd.R (Kd.int .i64) 3 w' w.heap.size (fun k_ => (s.2.1.heap.size ≤ k_ ∧ k_ < s.2.2.1.heap.size) ∧ ((True) ∧ k_ ≠ s.2.2.2.2.2.2.2.2.2.2.2.2.2.2.2)) (.slice s.2.2.2.2.2.2.2.2.2.2.2.1 t9.length s.2.2.2.2.2.2.2.2.2.2.2.2.1) t9 ∧ Kd.V (Kd.slice 3 (Kd.int .i64)) 39 w' w.heap.size (fun k_ => (w3.heap.size ≤ k_ ∧ k_ < s.2.2.1.heap.size) ∧ ((True) ∧ k_ ≠ s.2.2.2.2.2.2.2.2.2.2.2.2.2.2.2)) (.slice s.2.2.2.2.2.2.2.2.2.2.2.2.2.1 t10.length s.2.2.2.2.2.2.2.2.2.2.2.2.2.2.1) t10 ∧ w'.heap[w.heap.size]? = some (.cells #[.slice A0_0 l0_0.length c0_0, .slice A0_1 l0_1.length c0_1] 42 (0, 0)) ∧ w'.heap[(w.heap.size + 1)]? = some (.cells #[.slice A1_0 l1_0.length c1_0, .slice A1_1 l1_1.length c1_1] 42 (0, 0))) ?_ ?_
 rotate_left
 ·intro hCont
  refine two_ (i := 1) (j := 8) (Ni := some 29) (Nj := some 6) #[true, true, true, false, false, false, false, false, false, false, false] #[true, false, true, false, false, false, false, false, true, false, false] rfl rfl rfl rfl (by kernel_rfl) (by decide) (by decide) (fun K hK => ?_) (fun K hK => ?_)
  ·skip
   refine goes_ Try.func21 (by kernel_rfl) rfl #[.agg #[.slice A0_0 l0_0.length c0_0, .slice A0_1 l0_1.length c0_1]] (by rfl) rfl rfl (by simp only [List.map_toArray, List.map_cons, List.map_nil]; rfl) ?_
   (with_reducible refine (laws_toRelation.calls k _ _ l0_0 _ _ l0_1 t3 t4 _ ?side1 ?side2 ?side3 ?side4 D2.out).mono ?_)
   (case side1 => exact Kd.C_below HR0_0.out (by repeat first | exact HB.out | apply below_alloc | apply pw_below_drewN | apply below_drew1))
   (case side2 => exact HC0_0.out)
   (case side3 => exact Kd.C_below HR0_1.out (by repeat first | exact HB.out | apply below_alloc | apply pw_below_drewN | apply below_drew1))
   (case side4 => exact HC0_1.out)
   rintro e w4 ⟨v4_0, v4_1, rfl, h0_, h1_, hb⟩
   (try refine ⟨_, rfl, ?_⟩)
   have hn := below_step (w := w3) (by repeat (first | exact Below.refl _ _ | (with_reducible first | apply below_alloc | apply pw_below_drewN | apply below_drew1))) hb
   have hs4 := below_size hn
   have hq := Aside0.mk (below_step (by repeat first | exact HB.out | apply below_alloc | apply pw_below_drewN | apply below_drew1) hb)
   have g4_0 := Aside0.mk (Kd.R_mono (ok' := (fun k_ => (w3.heap.size ≤ k_ ∧ k_ < w4.heap.size) ∧ (True))) (Kd.R_lower (Kd.R_bound h0_) (below_size (by repeat first | exact HB.out | apply below_alloc | apply pw_below_drewN | apply below_drew1))) (fun k_ hk_ => ⟨⟨Nat.le_trans (below_size (w := w3) (by repeat (first | exact Below.refl _ _ | (with_reducible first | apply below_alloc | apply pw_below_drewN | apply below_drew1)))) hk_.2.1, hk_.2.2.1⟩, hk_.1⟩))
   have g4_1 := Aside0.mk (Kd.S_mono (ok' := (fun k_ => (w3.heap.size ≤ k_ ∧ k_ < w4.heap.size) ∧ (some k_ ≠ (v4_0 : Value).ownBlock))) (Kd.S_lower (Kd.S_bound h1_) (below_size (by repeat first | exact HB.out | apply below_alloc | apply pw_below_drewN | apply below_drew1))) (fun k_ hk_ => ⟨⟨Nat.le_trans (below_size (w := w3) (by repeat (first | exact Below.refl _ _ | (with_reducible first | apply below_alloc | apply pw_below_drewN | apply below_drew1)))) hk_.2.1, hk_.2.2.1⟩, hk_.1⟩))
   have NBK0 := Aside0.mk (blk_below (g := w.heap.size) (o := .cells #[.slice A0_0 l0_0.length c0_0, .slice A0_1 l0_1.length c0_1] 42 (0, 0)) (by (with_reducible repeat (first | refine blk_drewN ?_ _ | refine blk_drew ?_ | refine blk_alloc ?_ _)); exact BK0.out) hb)
   have NBK1 := Aside0.mk (blk_below (g := (w.heap.size + 1)) (o := .cells #[.slice A1_0 l1_0.length c1_0, .slice A1_1 l1_1.length c1_1] 42 (0, 0)) (by (with_reducible repeat (first | refine blk_drewN ?_ _ | refine blk_drew ?_ | refine blk_alloc ?_ _)); exact BK1.out) hb)
   (try clear BK0)
   have BK0 := NBK0
   clear NBK0
   (try clear hlb0)
   have hlb0 : w.heap.size < w4.heap.size := blk_lt BK0.out
   (try clear BK1)
   have BK1 := NBK1
   clear NBK1
   (try clear hlb1)
   have hlb1 : (w.heap.size + 1) < w4.heap.size := blk_lt BK1.out
   clear HB
   have HB := hq
   clear hq hn hb h0_ h1_
   obtain ⟨A4_0, c4_0, eo⟩ := Kd.R_slice g4_0.out
   subst eo
   obtain ⟨A4_1, c4_1, eo⟩ := Kd.S_slice g4_1.out
   subst eo
   refine hK.out _ _ ⟨(blk_cell BK0.out 0).trans rfl, (blk_cell BK0.out 1).trans rfl, (blk_cell BK1.out 0).trans rfl, (blk_cell BK1.out 1).trans rfl⟩ (fun hHeld => ?_)
   clear hK K
   refine norm_ (a' := ?_) ?_ ?_
   rotate_left
   ·show Act.put _ (some 29) _ = _
    simp only [Act.put, List.setIfInBounds_toArray, List.set_cons_zero, List.set_cons_succ, i64_w, i32_w]
    rfl
   refine two_ (i := 3) (j := 8) (Ni := some 31) (Nj := some 6) #[true, true, true, true, false, false, false, false, false, false, false] #[true, true, true, false, false, false, false, false, true, false, false] rfl rfl rfl rfl (by kernel_rfl) (by decide) (by decide) (fun K hK => ?_) (fun K hK => ?_)
   ·skip
    refine goes_ Try.func21 (by kernel_rfl) rfl #[.agg #[.slice A1_0 l1_0.length c1_0, .slice A1_1 l1_1.length c1_1]] (by rfl) rfl rfl (by simp only [List.map_toArray, List.map_cons, List.map_nil]; rfl) ?_
    (with_reducible refine (laws_toRelation.calls k _ _ l1_0 _ _ l1_1 t5 t6 _ ?side1 ?side2 ?side3 ?side4 D3.out).mono ?_)
    (case side1 => exact Kd.C_below HR1_0.out (by repeat first | exact HB.out | apply below_alloc | apply pw_below_drewN | apply below_drew1))
    (case side2 => exact HC1_0.out)
    (case side3 => exact Kd.C_below HR1_1.out (by repeat first | exact HB.out | apply below_alloc | apply pw_below_drewN | apply below_drew1))
    (case side4 => exact HC1_1.out)
    rintro e w5 ⟨v5_0, v5_1, rfl, h0_, h1_, hb⟩
    (try refine ⟨_, rfl, ?_⟩)
    have hn := below_step (w := w4) (by repeat (first | exact Below.refl _ _ | (with_reducible first | apply below_alloc | apply pw_below_drewN | apply below_drew1))) hb
    have hs5 := below_size hn
    have hq := Aside0.mk (below_step (by repeat first | exact HB.out | apply below_alloc | apply pw_below_drewN | apply below_drew1) hb)
    have g5_0 := Aside0.mk (Kd.R_mono (ok' := (fun k_ => (w4.heap.size ≤ k_ ∧ k_ < w5.heap.size) ∧ (True))) (Kd.R_lower (Kd.R_bound h0_) (below_size (by repeat first | exact HB.out | apply below_alloc | apply pw_below_drewN | apply below_drew1))) (fun k_ hk_ => ⟨⟨Nat.le_trans (below_size (w := w4) (by repeat (first | exact Below.refl _ _ | (with_reducible first | apply below_alloc | apply pw_below_drewN | apply below_drew1)))) hk_.2.1, hk_.2.2.1⟩, hk_.1⟩))
    have g5_1 := Aside0.mk (Kd.S_mono (ok' := (fun k_ => (w4.heap.size ≤ k_ ∧ k_ < w5.heap.size) ∧ (some k_ ≠ (v5_0 : Value).ownBlock))) (Kd.S_lower (Kd.S_bound h1_) (below_size (by repeat first | exact HB.out | apply below_alloc | apply pw_below_drewN | apply below_drew1))) (fun k_ hk_ => ⟨⟨Nat.le_trans (below_size (w := w4) (by repeat (first | exact Below.refl _ _ | (with_reducible first | apply below_alloc | apply pw_below_drewN | apply below_drew1)))) hk_.2.1, hk_.2.2.1⟩, hk_.1⟩))
    have F15 := Aside0.mk (Kd.R_below g4_0.out hn)
    have F16 := Aside0.mk (Kd.S_below g4_1.out hn)
    have NBK0 := Aside0.mk (blk_below (g := w.heap.size) (o := .cells #[.slice A0_0 l0_0.length c0_0, .slice A0_1 l0_1.length c0_1] 42 (0, 0)) (by (with_reducible repeat (first | refine blk_drewN ?_ _ | refine blk_drew ?_ | refine blk_alloc ?_ _)); exact BK0.out) hb)
    have NBK1 := Aside0.mk (blk_below (g := (w.heap.size + 1)) (o := .cells #[.slice A1_0 l1_0.length c1_0, .slice A1_1 l1_1.length c1_1] 42 (0, 0)) (by (with_reducible repeat (first | refine blk_drewN ?_ _ | refine blk_drew ?_ | refine blk_alloc ?_ _)); exact BK1.out) hb)
    (try clear BK0)
    have BK0 := NBK0
    clear NBK0
    (try clear hlb0)
    have hlb0 : w.heap.size < w5.heap.size := blk_lt BK0.out
    (try clear BK1)
    have BK1 := NBK1
    clear NBK1
    (try clear hlb1)
    have hlb1 : (w.heap.size + 1) < w5.heap.size := blk_lt BK1.out
    clear HB g4_0 g4_1
    have HB := hq
    clear hq hn hb h0_ h1_
    obtain ⟨A5_0, c5_0, eo⟩ := Kd.R_slice g5_0.out
    subst eo
    obtain ⟨A5_1, c5_1, eo⟩ := Kd.S_slice g5_1.out
    subst eo
    refine hK.out _ _ ⟨(blk_cell BK0.out 0).trans rfl, (blk_cell BK0.out 1).trans rfl, (blk_cell BK1.out 0).trans rfl, (blk_cell BK1.out 1).trans rfl⟩ (fun hHeld => ?_)
    clear hK K
    refine norm_ (a' := ?_) ?_ ?_
    rotate_left
    ·show Act.put _ (some 31) _ = _
     simp only [Act.put, List.setIfInBounds_toArray, List.set_cons_zero, List.set_cons_succ, i64_w, i32_w]
     rfl
    refine two_ (i := 4) (j := 8) (Ni := some 32) (Nj := some 6) #[true, true, true, true, true, false, false, false, false, false, false] #[true, true, true, true, false, false, false, false, true, false, false] rfl rfl rfl rfl (by kernel_rfl) (by decide) (by decide) (fun K hK => ?_) (fun K hK => ?_)
    ·skip
     refine goes_ Try.func26 (by kernel_rfl) rfl #[.agg #[.slice A4_0 t3.length c4_0, .slice A4_1 t4.length c4_1], .agg #[.slice A5_0 t5.length c5_0, .slice A5_1 t6.length c5_1]] (by rfl) rfl rfl (by simp only [List.map_toArray, List.map_cons, List.map_nil]; rfl) ?_
     (with_reducible refine (spec_WithoutOf.calls k _ _ t3 (fun k_ => (w3.heap.size ≤ k_ ∧ k_ < w4.heap.size) ∧ (some k_ ≠ (.slice A4_0 t3.length c4_0 : Value).ownBlock)) _ _ t4 _ _ t5 _ _ t6 t9 t10 t11 _ ?side1 ?side2 ?side3 ?side4 ?side5 ?side6 ?side7 D4.out).mono ?_)
     (case side1 => repeat (first | exact (Kd.R_reads' F15.out).2.2 | (with_reducible refine Kd.C_alloc ?_ _) | (with_reducible refine Kd.C_drewN ?_ _) | (with_reducible refine Kd.C_drew ?_)))
     (case side2 => exact (Kd.R_reads' F15.out).2.1)
     (case side3 => repeat (first | exact Kd.S_V F16.out | (with_reducible refine Kd.V_alloc ?_ _) | (with_reducible refine Kd.V_drewN ?_ _) | (with_reducible refine Kd.V_drew ?_)))
     (case side4 => repeat (first | exact (Kd.R_reads' g5_0.out).2.2 | (with_reducible refine Kd.C_alloc ?_ _) | (with_reducible refine Kd.C_drewN ?_ _) | (with_reducible refine Kd.C_drew ?_)))
     (case side5 => exact (Kd.R_reads' g5_0.out).2.1)
     (case side6 => repeat (first | exact (Kd.S_reads' g5_1.out).2.2 | (with_reducible refine Kd.C_alloc ?_ _) | (with_reducible refine Kd.C_drewN ?_ _) | (with_reducible refine Kd.C_drew ?_)))
     (case side7 => exact (Kd.S_reads' g5_1.out).2.1)
     rintro e w6 ⟨v6_0, v6_1, rfl, h0_, h1_, hb⟩
     (try refine ⟨_, rfl, ?_⟩)
     have hn := below_step (w := w5) (by repeat (first | exact Below.refl _ _ | (with_reducible first | apply below_alloc | apply pw_below_drewN | apply below_drew1))) hb
     have hs6 := below_size hn
     have hq := Aside0.mk (below_step (by repeat first | exact HB.out | apply below_alloc | apply pw_below_drewN | apply below_drew1) hb)
     have g6_0 := Aside0.mk (Kd.R_mono (ok' := (fun k_ => (w5.heap.size ≤ k_ ∧ k_ < w6.heap.size) ∧ (True))) (Kd.R_lower (Kd.R_bound h0_) (below_size (by repeat first | exact HB.out | apply below_alloc | apply pw_below_drewN | apply below_drew1))) (fun k_ hk_ => ⟨⟨Nat.le_trans (below_size (w := w5) (by repeat (first | exact Below.refl _ _ | (with_reducible first | apply below_alloc | apply pw_below_drewN | apply below_drew1)))) hk_.2.1, hk_.2.2.1⟩, trivial⟩))
     have g6_1 := Aside0.mk (Kd.V_mono (ok' := (fun k_ => (w3.heap.size ≤ k_ ∧ k_ < w6.heap.size) ∧ (True))) (Kd.V_lower (Kd.V_bound h1_) (below_size (by repeat first | exact HB.out | apply below_alloc | apply pw_below_drewN | apply below_drew1))) (fun k_ hk2_ => ⟨⟨by (have hk_ := hk2_.1; (try replace hk_ := hk_.1); rcases hk_ with (hk_ | hk_); all_goals first | (exact Nat.le_trans (by first | exact Nat.le_refl _ | omega) hk_.1.1) | (exact Nat.le_trans (Nat.le_trans (by first | exact Nat.le_refl _ | omega : w3.heap.size ≤ w5.heap.size) (below_size (w := w5) (by repeat (first | exact Below.refl _ _ | (with_reducible first | apply below_alloc | apply pw_below_drewN | apply below_drew1))))) hk_)), hk2_.2⟩, trivial⟩))
     clear F16
     have F17 := Aside0.mk (Kd.R_below F15.out hn)
     have F18 := Aside0.mk (Kd.R_below g5_0.out hn)
     have F19 := Aside0.mk (Kd.S_below g5_1.out hn)
     have NBK0 := Aside0.mk (blk_below (g := w.heap.size) (o := .cells #[.slice A0_0 l0_0.length c0_0, .slice A0_1 l0_1.length c0_1] 42 (0, 0)) (by (with_reducible repeat (first | refine blk_drewN ?_ _ | refine blk_drew ?_ | refine blk_alloc ?_ _)); exact BK0.out) hb)
     have NBK1 := Aside0.mk (blk_below (g := (w.heap.size + 1)) (o := .cells #[.slice A1_0 l1_0.length c1_0, .slice A1_1 l1_1.length c1_1] 42 (0, 0)) (by (with_reducible repeat (first | refine blk_drewN ?_ _ | refine blk_drew ?_ | refine blk_alloc ?_ _)); exact BK1.out) hb)
     (try clear BK0)
     have BK0 := NBK0
     clear NBK0
     (try clear hlb0)
     have hlb0 : w.heap.size < w6.heap.size := blk_lt BK0.out
     (try clear BK1)
     have BK1 := NBK1
     clear NBK1
     (try clear hlb1)
     have hlb1 : (w.heap.size + 1) < w6.heap.size := blk_lt BK1.out
     clear HB F15 g5_0 g5_1
     have HB := hq
     clear hq hn hb h0_ h1_
     obtain ⟨A6_0, c6_0, eo⟩ := Kd.R_slice g6_0.out
     subst eo
     obtain ⟨A6_1, c6_1, eo⟩ := Kd.V_slice g6_1.out
     subst eo
     refine hK.out _ _ ⟨(blk_cell BK0.out 0).trans rfl, (blk_cell BK0.out 1).trans rfl, (blk_cell BK1.out 0).trans rfl, (blk_cell BK1.out 1).trans rfl⟩ (fun hHeld => ?_)
     clear hK K
     refine norm_ (a' := ?_) ?_ ?_
     rotate_left
     ·show Act.put _ (some 32) _ = _
      simp only [Act.put, List.setIfInBounds_toArray, List.set_cons_zero, List.set_cons_succ, i64_w, i32_w]
      rfl
     refine pure_ (i := 5) (N := some 27) (v := ?_) (a' := ?_) #[true, true, true, true, true, true, false, false, false, false, false] rfl rfl (by kernel_rfl) (fun _ _ _ h => h) (Or.inl ⟨by rfl, ?_⟩) ?_ ?_
     rotate_left
     ·intro w'
      go_simp
      with_reducible rfl
     rotate_left
     ·simp only [Act.put, List.setIfInBounds_toArray, List.set_cons_zero, List.set_cons_succ, i64_w, i32_w]
      rfl
     refine pure_ (i := 6) (N := some 33) (v := ?_) (a' := ?_) #[true, true, true, true, true, true, true, false, false, false, false] rfl rfl (by kernel_rfl) (fun _ _ _ h => h) (Or.inl ⟨by rfl, ?_⟩) ?_ ?_
     rotate_left
     ·intro w'
      go_simp
      with_reducible rfl
     rotate_left
     ·simp only [Act.put, List.setIfInBounds_toArray, List.set_cons_zero, List.set_cons_succ, i64_w, i32_w]
      rfl
     refine pure_ (i := 7) (N := some 34) (v := ?_) (a' := ?_) #[true, true, true, true, true, true, true, true, false, false, false] rfl rfl (by kernel_rfl) (fun _ _ _ h => h) (Or.inl ⟨by rfl, ?_⟩) ?_ ?_
     rotate_left
     ·intro w'
      go_simp
      with_reducible rfl
     rotate_left
     ·simp only [Act.put, List.setIfInBounds_toArray, List.set_cons_zero, List.set_cons_succ, i64_w, i32_w]
      rfl
     refine one_ (i := 8) (N := some 6) #[true, true, true, true, true, true, true, true, true, false, false] rfl rfl (by kernel_rfl) (by decide) (fun K hK => ?_)
     refine value_ (w1 := ?_) (v := ?_) (by rfl) rfl ?_ ?_
     rotate_left 2
     ·go_simp
      constructor
      ·rfl
      ·rfl
     refine hK.out _ _ ⟨(blk_cell (blk_alloc BK0.out _) 0).trans rfl, (blk_cell (blk_alloc BK0.out _) 1).trans rfl, (blk_cell (blk_alloc BK1.out _) 0).trans rfl, (blk_cell (blk_alloc BK1.out _) 1).trans rfl⟩ (fun hHeld => ?_)
     clear hK K
     refine norm_ (a' := ?_) ?_ ?_
     rotate_left
     ·show Act.put _ (some 6) _ = _
      simp only [Act.put, List.setIfInBounds_toArray, List.set_cons_zero, List.set_cons_succ, i64_w, i32_w]
      rfl
     exact norm_ (by simp only [putAll, Act.put, List.setIfInBounds_toArray, List.set_cons_zero, List.set_cons_succ]) (hCont (w4, w5, w6, A4_0, c4_0, A4_1, c4_1, A5_0, c5_0, A5_1, c5_1, A6_0, c6_0, A6_1, c6_1, w6.heap.size) _ (by dsimp only; exact ⟨hs4, hs5, hs6, (by first | exact Nat.le_refl _ | (simp; done) | (simp; omega)), (by omega), (by first | omega | (simp; done) | (simp; omega)), (heap_alloc_new _ _), (by repeat first | exact HB.out | apply below_alloc | apply pw_below_drewN | apply below_drew1), (Kd.R_mono (Kd.R_alloc F17.out _) (fun k_ hk_ => ⟨hk_.1, hk_.2, by have z_ := hk_.1; omega⟩)), (Kd.R_mono (Kd.R_alloc F18.out _) (fun k_ hk_ => ⟨hk_.1, hk_.2, by have z_ := hk_.1; omega⟩)), (Kd.S_mono (Kd.S_alloc F19.out _) (fun k_ hk_ => ⟨hk_.1, hk_.2, by have z_ := hk_.1; omega⟩)), (Kd.R_mono (Kd.R_alloc g6_0.out _) (fun k_ hk_ => ⟨hk_.1, hk_.2, by have z_ := hk_.1; omega⟩)), (Kd.V_mono (Kd.V_alloc g6_1.out _) (fun k_ hk_ => ⟨hk_.1, hk_.2, by have z_ := hk_.1; omega⟩)), (blk_alloc BK0.out _), (blk_alloc BK1.out _)⟩))
    ·skip
     refine value_ (w1 := ?_) (v := ?_) (by rfl) rfl ?_ ?_
     rotate_left 2
     ·go_simp
      constructor
      ·rfl
      ·rfl
     refine hK.out _ _ ⟨(blk_cell (blk_alloc BK0.out _) 0).trans rfl, (blk_cell (blk_alloc BK0.out _) 1).trans rfl, (blk_cell (blk_alloc BK1.out _) 0).trans rfl, (blk_cell (blk_alloc BK1.out _) 1).trans rfl⟩ (fun hHeld => ?_)
     clear hK K
     refine norm_ (a' := ?_) ?_ ?_
     rotate_left
     ·show Act.put _ (some 6) _ = _
      simp only [Act.put, List.setIfInBounds_toArray, List.set_cons_zero, List.set_cons_succ, i64_w, i32_w]
      rfl
     refine one_ (i := 4) (N := some 32) #[true, true, true, true, true, false, false, false, true, false, false] rfl rfl (by kernel_rfl) (by decide) (fun K hK => ?_)
     refine goes_ Try.func26 (by kernel_rfl) rfl #[.agg #[.slice A4_0 t3.length c4_0, .slice A4_1 t4.length c4_1], .agg #[.slice A5_0 t5.length c5_0, .slice A5_1 t6.length c5_1]] (by rfl) rfl rfl (by simp only [List.map_toArray, List.map_cons, List.map_nil]; rfl) ?_
     (with_reducible refine (spec_WithoutOf.calls k _ _ t3 (fun k_ => (w3.heap.size ≤ k_ ∧ k_ < w4.heap.size) ∧ (some k_ ≠ (.slice A4_0 t3.length c4_0 : Value).ownBlock)) _ _ t4 _ _ t5 _ _ t6 t9 t10 t11 _ ?side1 ?side2 ?side3 ?side4 ?side5 ?side6 ?side7 D4.out).mono ?_)
     (case side1 => repeat (first | exact (Kd.R_reads' F15.out).2.2 | (with_reducible refine Kd.C_alloc ?_ _) | (with_reducible refine Kd.C_drewN ?_ _) | (with_reducible refine Kd.C_drew ?_)))
     (case side2 => exact (Kd.R_reads' F15.out).2.1)
     (case side3 => repeat (first | exact Kd.S_V F16.out | (with_reducible refine Kd.V_alloc ?_ _) | (with_reducible refine Kd.V_drewN ?_ _) | (with_reducible refine Kd.V_drew ?_)))
     (case side4 => repeat (first | exact (Kd.R_reads' g5_0.out).2.2 | (with_reducible refine Kd.C_alloc ?_ _) | (with_reducible refine Kd.C_drewN ?_ _) | (with_reducible refine Kd.C_drew ?_)))
     (case side5 => exact (Kd.R_reads' g5_0.out).2.1)
     (case side6 => repeat (first | exact (Kd.S_reads' g5_1.out).2.2 | (with_reducible refine Kd.C_alloc ?_ _) | (with_reducible refine Kd.C_drewN ?_ _) | (with_reducible refine Kd.C_drew ?_)))
     (case side7 => exact (Kd.S_reads' g5_1.out).2.1)
     rintro e w6 ⟨v6_0, v6_1, rfl, h0_, h1_, hb⟩
     (try refine ⟨_, rfl, ?_⟩)
     have hp6 : (w5.heap.size + 1) ≤ _ := Nat.le_trans (by first | exact Nat.le_refl _ | (simp; done) | (simp; omega)) hb.size
     have hq6 : (w5.heap.size + 1) ≤ w6.heap.size := hp6
     have hn := below_step (w := w5) (by repeat (first | exact Below.refl _ _ | (with_reducible first | apply below_alloc | apply pw_below_drewN | apply below_drew1))) hb
     have hs6 := below_size hn
     have hq := Aside0.mk (below_step (by repeat first | exact HB.out | apply below_alloc | apply pw_below_drewN | apply below_drew1) hb)
     have g6_0 := Aside0.mk (Kd.R_mono (ok' := (fun k_ => ((w5.heap.size + 1) ≤ k_ ∧ k_ < w6.heap.size) ∧ ((True) ∧ k_ ≠ w5.heap.size))) (Kd.R_lower (Kd.R_bound h0_) (below_size (by repeat first | exact HB.out | apply below_alloc | apply pw_below_drewN | apply below_drew1))) (fun k_ hk_ => ⟨⟨Nat.le_trans (by first | exact Nat.le_refl _ | (simp; done) | (simp; omega) : (w5.heap.size + 1) ≤ _) hk_.2.1, hk_.2.2.1⟩, ⟨trivial, by have z_ : (w5.heap.size + 1) ≤ k_ := Nat.le_trans (by first | exact Nat.le_refl _ | (simp; done) | (simp; omega) : (w5.heap.size + 1) ≤ _) hk_.2.1; omega⟩⟩))
     have g6_1 := Aside0.mk (Kd.V_mono (ok' := (fun k_ => (w3.heap.size ≤ k_ ∧ k_ < w6.heap.size) ∧ ((True) ∧ k_ ≠ w5.heap.size))) (Kd.V_lower (Kd.V_bound h1_) (below_size (by repeat first | exact HB.out | apply below_alloc | apply pw_below_drewN | apply below_drew1))) (fun k_ hk2_ => ⟨⟨by (have hk_ := hk2_.1; (try replace hk_ := hk_.1); rcases hk_ with (hk_ | hk_); all_goals first | (exact Nat.le_trans (by first | exact Nat.le_refl _ | omega) hk_.1.1) | (exact Nat.le_trans (Nat.le_trans (by first | exact Nat.le_refl _ | omega : w3.heap.size ≤ w5.heap.size) (below_size (w := w5) (by repeat (first | exact Below.refl _ _ | (with_reducible first | apply below_alloc | apply pw_below_drewN | apply below_drew1))))) hk_)), hk2_.2⟩, ⟨trivial, by (have hk_ := hk2_.1; (try replace hk_ := hk_.1); rcases hk_ with (hk_ | hk_); all_goals first | exact hk_.2.2 | (have z_ := hk_.1; omega) | (have z_ : (w5.heap.size + 1) ≤ k_ := Nat.le_trans (by first | exact Nat.le_refl _ | (simp; done) | (simp; omega)) hk_; omega))⟩⟩))
     clear F16
     have F17 := Aside0.mk (Kd.R_below F15.out hn)
     have F18 := Aside0.mk (Kd.R_below g5_0.out hn)
     have F19 := Aside0.mk (Kd.S_below g5_1.out hn)
     have NBK0 := Aside0.mk (blk_below (g := w.heap.size) (o := .cells #[.slice A0_0 l0_0.length c0_0, .slice A0_1 l0_1.length c0_1] 42 (0, 0)) (by (with_reducible repeat (first | refine blk_drewN ?_ _ | refine blk_drew ?_ | refine blk_alloc ?_ _)); exact BK0.out) hb)
     have NBK1 := Aside0.mk (blk_below (g := (w.heap.size + 1)) (o := .cells #[.slice A1_0 l1_0.length c1_0, .slice A1_1 l1_1.length c1_1] 42 (0, 0)) (by (with_reducible repeat (first | refine blk_drewN ?_ _ | refine blk_drew ?_ | refine blk_alloc ?_ _)); exact BK1.out) hb)
     have NBK2 := Aside0.mk (blk_below (g := w5.heap.size) (o := .cells #[.slice none 0 0, .slice none 0 0] 44 (0, 0)) (by first | exact heap_alloc_new _ _ | exact blk_drewN (heap_alloc_new _ _) _ | exact blk_drew (heap_alloc_new _ _) | (have h_ := heap_alloc_new w5 (.cells #[.slice none 0 0, .slice none 0 0] 44); simpa using h_)) hb)
     (try clear BK0)
     have BK0 := NBK0
     clear NBK0
     (try clear hlb0)
     have hlb0 : w.heap.size < w6.heap.size := blk_lt BK0.out
     (try clear BK1)
     have BK1 := NBK1
     clear NBK1
     (try clear hlb1)
     have hlb1 : (w.heap.size + 1) < w6.heap.size := blk_lt BK1.out
     (try clear BK2)
     have BK2 := NBK2
     clear NBK2
     (try clear hlb2)
     have hlb2 : w5.heap.size < w6.heap.size := blk_lt BK2.out
     clear HB F15 g5_0 g5_1
     have HB := hq
     clear hq hn hb h0_ h1_
     obtain ⟨A6_0, c6_0, eo⟩ := Kd.R_slice g6_0.out
     subst eo
     obtain ⟨A6_1, c6_1, eo⟩ := Kd.V_slice g6_1.out
     subst eo
     refine hK.out _ _ ⟨(blk_cell BK0.out 0).trans rfl, (blk_cell BK0.out 1).trans rfl, (blk_cell BK1.out 0).trans rfl, (blk_cell BK1.out 1).trans rfl⟩ (fun hHeld => ?_)
     clear hK K
     refine norm_ (a' := ?_) ?_ ?_
     rotate_left
     ·show Act.put _ (some 32) _ = _
      simp only [Act.put, List.setIfInBounds_toArray, List.set_cons_zero, List.set_cons_succ, i64_w, i32_w]
      rfl
     refine pure_ (i := 5) (N := some 27) (v := ?_) (a' := ?_) #[true, true, true, true, true, true, false, false, true, false, false] rfl rfl (by kernel_rfl) (fun _ _ _ h => h) (Or.inl ⟨by rfl, ?_⟩) ?_ ?_
     rotate_left
     ·intro w'
      go_simp
      with_reducible rfl
     rotate_left
     ·simp only [Act.put, List.setIfInBounds_toArray, List.set_cons_zero, List.set_cons_succ, i64_w, i32_w]
      rfl
     refine pure_ (i := 6) (N := some 33) (v := ?_) (a' := ?_) #[true, true, true, true, true, true, true, false, true, false, false] rfl rfl (by kernel_rfl) (fun _ _ _ h => h) (Or.inl ⟨by rfl, ?_⟩) ?_ ?_
     rotate_left
     ·intro w'
      go_simp
      with_reducible rfl
     rotate_left
     ·simp only [Act.put, List.setIfInBounds_toArray, List.set_cons_zero, List.set_cons_succ, i64_w, i32_w]
      rfl
     refine pure_ (i := 7) (N := some 34) (v := ?_) (a' := ?_) #[true, true, true, true, true, true, true, true, true, false, false] rfl rfl (by kernel_rfl) (fun _ _ _ h => h) (Or.inl ⟨by rfl, ?_⟩) ?_ ?_
     rotate_left
     ·intro w'
      go_simp
      with_reducible rfl
     rotate_left
     ·simp only [Act.put, List.setIfInBounds_toArray, List.set_cons_zero, List.set_cons_succ, i64_w, i32_w]
      rfl
     exact norm_ (by simp only [putAll, Act.put, List.setIfInBounds_toArray, List.set_cons_zero, List.set_cons_succ]) (hCont (w4, w5, w6, A4_0, c4_0, A4_1, c4_1, A5_0, c5_0, A5_1, c5_1, A6_0, c6_0, A6_1, c6_1, w5.heap.size) _ (by dsimp only; exact ⟨hs4, hs5, hs6, (by first | exact Nat.le_refl _ | (simp; done) | (simp; omega)), (by omega), (by first | omega | (simp; done) | (simp; omega)), BK2.out, (by repeat first | exact HB.out | apply below_alloc | apply pw_below_drewN | apply below_drew1), (Kd.R_mono F17.out (fun k_ hk_ => ⟨⟨by have z_ := hk_.1.1; omega, hk_.1.2⟩, ⟨hk_.2, by have z_ := hk_.1; omega⟩⟩)), (Kd.R_mono F18.out (fun k_ hk_ => ⟨⟨by have z_ := hk_.1.1; omega, hk_.1.2⟩, ⟨hk_.2, by have z_ := hk_.1; omega⟩⟩)), (Kd.S_mono F19.out (fun k_ hk_ => ⟨⟨by have z_ := hk_.1.1; omega, hk_.1.2⟩, ⟨hk_.2, by have z_ := hk_.1; omega⟩⟩)), (Kd.R_mono g6_0.out (fun k_ hk_ => ⟨⟨by have z_ := hk_.1.1; omega, hk_.1.2⟩, hk_.2⟩)), (Kd.V_mono g6_1.out (fun k_ hk_ => ⟨⟨by have z_ := hk_.1.1; omega, hk_.1.2⟩, hk_.2⟩)), BK0.out, BK1.out⟩))
   ·skip
    refine value_ (w1 := ?_) (v := ?_) (by rfl) rfl ?_ ?_
    rotate_left 2
    ·go_simp
     constructor
     ·rfl
     ·rfl
    refine hK.out _ _ ⟨(blk_cell (blk_alloc BK0.out _) 0).trans rfl, (blk_cell (blk_alloc BK0.out _) 1).trans rfl, (blk_cell (blk_alloc BK1.out _) 0).trans rfl, (blk_cell (blk_alloc BK1.out _) 1).trans rfl⟩ (fun hHeld => ?_)
    clear hK K
    refine norm_ (a' := ?_) ?_ ?_
    rotate_left
    ·show Act.put _ (some 6) _ = _
     simp only [Act.put, List.setIfInBounds_toArray, List.set_cons_zero, List.set_cons_succ, i64_w, i32_w]
     rfl
    refine one_ (i := 3) (N := some 31) #[true, true, true, true, false, false, false, false, true, false, false] rfl rfl (by kernel_rfl) (by decide) (fun K hK => ?_)
    refine goes_ Try.func21 (by kernel_rfl) rfl #[.agg #[.slice A1_0 l1_0.length c1_0, .slice A1_1 l1_1.length c1_1]] (by rfl) rfl rfl (by simp only [List.map_toArray, List.map_cons, List.map_nil]; rfl) ?_
    (with_reducible refine (laws_toRelation.calls k _ _ l1_0 _ _ l1_1 t5 t6 _ ?side1 ?side2 ?side3 ?side4 D3.out).mono ?_)
    (case side1 => exact Kd.C_below HR1_0.out (by repeat first | exact HB.out | apply below_alloc | apply pw_below_drewN | apply below_drew1))
    (case side2 => exact HC1_0.out)
    (case side3 => exact Kd.C_below HR1_1.out (by repeat first | exact HB.out | apply below_alloc | apply pw_below_drewN | apply below_drew1))
    (case side4 => exact HC1_1.out)
    rintro e w5 ⟨v5_0, v5_1, rfl, h0_, h1_, hb⟩
    (try refine ⟨_, rfl, ?_⟩)
    have hp5 : (w4.heap.size + 1) ≤ _ := Nat.le_trans (by first | exact Nat.le_refl _ | (simp; done) | (simp; omega)) hb.size
    have hq5 : (w4.heap.size + 1) ≤ w5.heap.size := hp5
    have hn := below_step (w := w4) (by repeat (first | exact Below.refl _ _ | (with_reducible first | apply below_alloc | apply pw_below_drewN | apply below_drew1))) hb
    have hs5 := below_size hn
    have hq := Aside0.mk (below_step (by repeat first | exact HB.out | apply below_alloc | apply pw_below_drewN | apply below_drew1) hb)
    have g5_0 := Aside0.mk (Kd.R_mono (ok' := (fun k_ => ((w4.heap.size + 1) ≤ k_ ∧ k_ < w5.heap.size) ∧ ((True) ∧ k_ ≠ w4.heap.size))) (Kd.R_lower (Kd.R_bound h0_) (below_size (by repeat first | exact HB.out | apply below_alloc | apply pw_below_drewN | apply below_drew1))) (fun k_ hk_ => ⟨⟨Nat.le_trans (by first | exact Nat.le_refl _ | (simp; done) | (simp; omega) : (w4.heap.size + 1) ≤ _) hk_.2.1, hk_.2.2.1⟩, ⟨hk_.1, by have z_ : (w4.heap.size + 1) ≤ k_ := Nat.le_trans (by first | exact Nat.le_refl _ | (simp; done) | (simp; omega) : (w4.heap.size + 1) ≤ _) hk_.2.1; omega⟩⟩))
    have g5_1 := Aside0.mk (Kd.S_mono (ok' := (fun k_ => ((w4.heap.size + 1) ≤ k_ ∧ k_ < w5.heap.size) ∧ ((some k_ ≠ (v5_0 : Value).ownBlock) ∧ k_ ≠ w4.heap.size))) (Kd.S_lower (Kd.S_bound h1_) (below_size (by repeat first | exact HB.out | apply below_alloc | apply pw_below_drewN | apply below_drew1))) (fun k_ hk_ => ⟨⟨Nat.le_trans (by first | exact Nat.le_refl _ | (simp; done) | (simp; omega) : (w4.heap.size + 1) ≤ _) hk_.2.1, hk_.2.2.1⟩, ⟨hk_.1, by have z_ : (w4.heap.size + 1) ≤ k_ := Nat.le_trans (by first | exact Nat.le_refl _ | (simp; done) | (simp; omega) : (w4.heap.size + 1) ≤ _) hk_.2.1; omega⟩⟩))
    have F15 := Aside0.mk (Kd.R_below g4_0.out hn)
    have F16 := Aside0.mk (Kd.S_below g4_1.out hn)
    have NBK0 := Aside0.mk (blk_below (g := w.heap.size) (o := .cells #[.slice A0_0 l0_0.length c0_0, .slice A0_1 l0_1.length c0_1] 42 (0, 0)) (by (with_reducible repeat (first | refine blk_drewN ?_ _ | refine blk_drew ?_ | refine blk_alloc ?_ _)); exact BK0.out) hb)
    have NBK1 := Aside0.mk (blk_below (g := (w.heap.size + 1)) (o := .cells #[.slice A1_0 l1_0.length c1_0, .slice A1_1 l1_1.length c1_1] 42 (0, 0)) (by (with_reducible repeat (first | refine blk_drewN ?_ _ | refine blk_drew ?_ | refine blk_alloc ?_ _)); exact BK1.out) hb)
    have NBK2 := Aside0.mk (blk_below (g := w4.heap.size) (o := .cells #[.slice none 0 0, .slice none 0 0] 44 (0, 0)) (by first | exact heap_alloc_new _ _ | exact blk_drewN (heap_alloc_new _ _) _ | exact blk_drew (heap_alloc_new _ _) | (have h_ := heap_alloc_new w4 (.cells #[.slice none 0 0, .slice none 0 0] 44); simpa using h_)) hb)
    (try clear BK0)
    have BK0 := NBK0
    clear NBK0
    (try clear hlb0)
    have hlb0 : w.heap.size < w5.heap.size := blk_lt BK0.out
    (try clear BK1)
    have BK1 := NBK1
    clear NBK1
    (try clear hlb1)
    have hlb1 : (w.heap.size + 1) < w5.heap.size := blk_lt BK1.out
    (try clear BK2)
    have BK2 := NBK2
    clear NBK2
    (try clear hlb2)
    have hlb2 : w4.heap.size < w5.heap.size := blk_lt BK2.out
    clear HB g4_0 g4_1
    have HB := hq
    clear hq hn hb h0_ h1_
    obtain ⟨A5_0, c5_0, eo⟩ := Kd.R_slice g5_0.out
    subst eo
    obtain ⟨A5_1, c5_1, eo⟩ := Kd.S_slice g5_1.out
    subst eo
    refine hK.out _ _ ⟨(blk_cell BK0.out 0).trans rfl, (blk_cell BK0.out 1).trans rfl, (blk_cell BK1.out 0).trans rfl, (blk_cell BK1.out 1).trans rfl⟩ (fun hHeld => ?_)
    clear hK K
    refine norm_ (a' := ?_) ?_ ?_
    rotate_left
    ·show Act.put _ (some 31) _ = _
     simp only [Act.put, List.setIfInBounds_toArray, List.set_cons_zero, List.set_cons_succ, i64_w, i32_w]
     rfl
    refine one_ (i := 4) (N := some 32) #[true, true, true, true, true, false, false, false, true, false, false] rfl rfl (by kernel_rfl) (by decide) (fun K hK => ?_)
    refine goes_ Try.func26 (by kernel_rfl) rfl #[.agg #[.slice A4_0 t3.length c4_0, .slice A4_1 t4.length c4_1], .agg #[.slice A5_0 t5.length c5_0, .slice A5_1 t6.length c5_1]] (by rfl) rfl rfl (by simp only [List.map_toArray, List.map_cons, List.map_nil]; rfl) ?_
    (with_reducible refine (spec_WithoutOf.calls k _ _ t3 (fun k_ => (w3.heap.size ≤ k_ ∧ k_ < w4.heap.size) ∧ (some k_ ≠ (.slice A4_0 t3.length c4_0 : Value).ownBlock)) _ _ t4 _ _ t5 _ _ t6 t9 t10 t11 _ ?side1 ?side2 ?side3 ?side4 ?side5 ?side6 ?side7 D4.out).mono ?_)
    (case side1 => repeat (first | exact (Kd.R_reads' F15.out).2.2 | (with_reducible refine Kd.C_alloc ?_ _) | (with_reducible refine Kd.C_drewN ?_ _) | (with_reducible refine Kd.C_drew ?_)))
    (case side2 => exact (Kd.R_reads' F15.out).2.1)
    (case side3 => repeat (first | exact Kd.S_V F16.out | (with_reducible refine Kd.V_alloc ?_ _) | (with_reducible refine Kd.V_drewN ?_ _) | (with_reducible refine Kd.V_drew ?_)))
    (case side4 => repeat (first | exact (Kd.R_reads' g5_0.out).2.2 | (with_reducible refine Kd.C_alloc ?_ _) | (with_reducible refine Kd.C_drewN ?_ _) | (with_reducible refine Kd.C_drew ?_)))
    (case side5 => exact (Kd.R_reads' g5_0.out).2.1)
    (case side6 => repeat (first | exact (Kd.S_reads' g5_1.out).2.2 | (with_reducible refine Kd.C_alloc ?_ _) | (with_reducible refine Kd.C_drewN ?_ _) | (with_reducible refine Kd.C_drew ?_)))
    (case side7 => exact (Kd.S_reads' g5_1.out).2.1)
    rintro e w6 ⟨v6_0, v6_1, rfl, h0_, h1_, hb⟩
    (try refine ⟨_, rfl, ?_⟩)
    have hn := below_step (w := w5) (by repeat (first | exact Below.refl _ _ | (with_reducible first | apply below_alloc | apply pw_below_drewN | apply below_drew1))) hb
    have hs6 := below_size hn
    have hq := Aside0.mk (below_step (by repeat first | exact HB.out | apply below_alloc | apply pw_below_drewN | apply below_drew1) hb)
    have g6_0 := Aside0.mk (Kd.R_mono (ok' := (fun k_ => (w5.heap.size ≤ k_ ∧ k_ < w6.heap.size) ∧ ((True) ∧ k_ ≠ w4.heap.size))) (Kd.R_lower (Kd.R_bound h0_) (below_size (by repeat first | exact HB.out | apply below_alloc | apply pw_below_drewN | apply below_drew1))) (fun k_ hk_ => ⟨⟨Nat.le_trans (below_size (w := w5) (by repeat (first | exact Below.refl _ _ | (with_reducible first | apply below_alloc | apply pw_below_drewN | apply below_drew1)))) hk_.2.1, hk_.2.2.1⟩, ⟨trivial, by have z_ : w5.heap.size ≤ k_ := Nat.le_trans (below_size (w := w5) (by repeat (first | exact Below.refl _ _ | (with_reducible first | apply below_alloc | apply pw_below_drewN | apply below_drew1)))) hk_.2.1; omega⟩⟩))
    have g6_1 := Aside0.mk (Kd.V_mono (ok' := (fun k_ => (w3.heap.size ≤ k_ ∧ k_ < w6.heap.size) ∧ ((True) ∧ k_ ≠ w4.heap.size))) (Kd.V_lower (Kd.V_bound h1_) (below_size (by repeat first | exact HB.out | apply below_alloc | apply pw_below_drewN | apply below_drew1))) (fun k_ hk2_ => ⟨⟨by (have hk_ := hk2_.1; (try replace hk_ := hk_.1); rcases hk_ with (hk_ | hk_); all_goals first | (exact Nat.le_trans (by first | exact Nat.le_refl _ | omega) hk_.1.1) | (exact Nat.le_trans (Nat.le_trans (by first | exact Nat.le_refl _ | omega : w3.heap.size ≤ w5.heap.size) (below_size (w := w5) (by repeat (first | exact Below.refl _ _ | (with_reducible first | apply below_alloc | apply pw_below_drewN | apply below_drew1))))) hk_)), hk2_.2⟩, ⟨trivial, by (have hk_ := hk2_.1; (try replace hk_ := hk_.1); rcases hk_ with (hk_ | hk_); all_goals first | exact hk_.2.2 | (have z_ := hk_.1; omega) | (have z_ : w5.heap.size ≤ k_ := Nat.le_trans (by first | exact Nat.le_refl _ | (simp; done) | (simp; omega)) hk_; omega))⟩⟩))
    clear F16
    have F17 := Aside0.mk (Kd.R_below F15.out hn)
    have F18 := Aside0.mk (Kd.R_below g5_0.out hn)
    have F19 := Aside0.mk (Kd.S_below g5_1.out hn)
    have NBK0 := Aside0.mk (blk_below (g := w.heap.size) (o := .cells #[.slice A0_0 l0_0.length c0_0, .slice A0_1 l0_1.length c0_1] 42 (0, 0)) (by (with_reducible repeat (first | refine blk_drewN ?_ _ | refine blk_drew ?_ | refine blk_alloc ?_ _)); exact BK0.out) hb)
    have NBK1 := Aside0.mk (blk_below (g := (w.heap.size + 1)) (o := .cells #[.slice A1_0 l1_0.length c1_0, .slice A1_1 l1_1.length c1_1] 42 (0, 0)) (by (with_reducible repeat (first | refine blk_drewN ?_ _ | refine blk_drew ?_ | refine blk_alloc ?_ _)); exact BK1.out) hb)
    have NBK2 := Aside0.mk (blk_below (g := w4.heap.size) (o := .cells #[.slice none 0 0, .slice none 0 0] 44 (0, 0)) (by (with_reducible repeat (first | refine blk_drewN ?_ _ | refine blk_drew ?_ | refine blk_alloc ?_ _)); exact BK2.out) hb)
    (try clear BK0)
    have BK0 := NBK0
    clear NBK0
    (try clear hlb0)
    have hlb0 : w.heap.size < w6.heap.size := blk_lt BK0.out
    (try clear BK1)
    have BK1 := NBK1
    clear NBK1
    (try clear hlb1)
    have hlb1 : (w.heap.size + 1) < w6.heap.size := blk_lt BK1.out
    (try clear BK2)
    have BK2 := NBK2
    clear NBK2
    (try clear hlb2)
    have hlb2 : w4.heap.size < w6.heap.size := blk_lt BK2.out
    clear HB F15 g5_0 g5_1
    have HB := hq
    clear hq hn hb h0_ h1_
    obtain ⟨A6_0, c6_0, eo⟩ := Kd.R_slice g6_0.out
    subst eo
    obtain ⟨A6_1, c6_1, eo⟩ := Kd.V_slice g6_1.out
    subst eo
    refine hK.out _ _ ⟨(blk_cell BK0.out 0).trans rfl, (blk_cell BK0.out 1).trans rfl, (blk_cell BK1.out 0).trans rfl, (blk_cell BK1.out 1).trans rfl⟩ (fun hHeld => ?_)
    clear hK K
    refine norm_ (a' := ?_) ?_ ?_
    rotate_left
    ·show Act.put _ (some 32) _ = _
     simp only [Act.put, List.setIfInBounds_toArray, List.set_cons_zero, List.set_cons_succ, i64_w, i32_w]
     rfl
    refine pure_ (i := 5) (N := some 27) (v := ?_) (a' := ?_) #[true, true, true, true, true, true, false, false, true, false, false] rfl rfl (by kernel_rfl) (fun _ _ _ h => h) (Or.inl ⟨by rfl, ?_⟩) ?_ ?_
    rotate_left
    ·intro w'
     go_simp
     with_reducible rfl
    rotate_left
    ·simp only [Act.put, List.setIfInBounds_toArray, List.set_cons_zero, List.set_cons_succ, i64_w, i32_w]
     rfl
    refine pure_ (i := 6) (N := some 33) (v := ?_) (a' := ?_) #[true, true, true, true, true, true, true, false, true, false, false] rfl rfl (by kernel_rfl) (fun _ _ _ h => h) (Or.inl ⟨by rfl, ?_⟩) ?_ ?_
    rotate_left
    ·intro w'
     go_simp
     with_reducible rfl
    rotate_left
    ·simp only [Act.put, List.setIfInBounds_toArray, List.set_cons_zero, List.set_cons_succ, i64_w, i32_w]
     rfl
    refine pure_ (i := 7) (N := some 34) (v := ?_) (a' := ?_) #[true, true, true, true, true, true, true, true, true, false, false] rfl rfl (by kernel_rfl) (fun _ _ _ h => h) (Or.inl ⟨by rfl, ?_⟩) ?_ ?_
    rotate_left
    ·intro w'
     go_simp
     with_reducible rfl
    rotate_left
    ·simp only [Act.put, List.setIfInBounds_toArray, List.set_cons_zero, List.set_cons_succ, i64_w, i32_w]
     rfl
    exact norm_ (by simp only [putAll, Act.put, List.setIfInBounds_toArray, List.set_cons_zero, List.set_cons_succ]) (hCont (w4, w5, w6, A4_0, c4_0, A4_1, c4_1, A5_0, c5_0, A5_1, c5_1, A6_0, c6_0, A6_1, c6_1, w4.heap.size) _ (by dsimp only; exact ⟨hs4, hs5, hs6, (by first | exact Nat.le_refl _ | (simp; done) | (simp; omega)), (by omega), (by first | omega | (simp; done) | (simp; omega)), BK2.out, (by repeat first | exact HB.out | apply below_alloc | apply pw_below_drewN | apply below_drew1), (Kd.R_mono F17.out (fun k_ hk_ => ⟨⟨by have z_ := hk_.1.1; omega, hk_.1.2⟩, ⟨hk_.2, by have z_ := hk_.1; omega⟩⟩)), (Kd.R_mono F18.out (fun k_ hk_ => ⟨⟨by have z_ := hk_.1.1; omega, hk_.1.2⟩, hk_.2⟩)), (Kd.S_mono F19.out (fun k_ hk_ => ⟨⟨by have z_ := hk_.1.1; omega, hk_.1.2⟩, hk_.2⟩)), (Kd.R_mono g6_0.out (fun k_ hk_ => ⟨⟨by have z_ := hk_.1.1; omega, hk_.1.2⟩, hk_.2⟩)), (Kd.V_mono g6_1.out (fun k_ hk_ => ⟨⟨by have z_ := hk_.1.1; omega, hk_.1.2⟩, hk_.2⟩)), BK0.out, BK1.out⟩))
  ·skip
   refine value_ (w1 := ?_) (v := ?_) (by rfl) rfl ?_ ?_
   rotate_left 2
   ·go_simp
    constructor
    ·rfl
    ·rfl
   refine hK.out _ _ ⟨(blk_cell (blk_alloc BK0.out _) 0).trans rfl, (blk_cell (blk_alloc BK0.out _) 1).trans rfl, (blk_cell (blk_alloc BK1.out _) 0).trans rfl, (blk_cell (blk_alloc BK1.out _) 1).trans rfl⟩ (fun hHeld => ?_)
   clear hK K
   refine norm_ (a' := ?_) ?_ ?_
   rotate_left
   ·show Act.put _ (some 6) _ = _
    simp only [Act.put, List.setIfInBounds_toArray, List.set_cons_zero, List.set_cons_succ, i64_w, i32_w]
    rfl
   refine one_ (i := 1) (N := some 29) #[true, true, true, false, false, false, false, false, true, false, false] rfl rfl (by kernel_rfl) (by decide) (fun K hK => ?_)
   refine goes_ Try.func21 (by kernel_rfl) rfl #[.agg #[.slice A0_0 l0_0.length c0_0, .slice A0_1 l0_1.length c0_1]] (by rfl) rfl rfl (by simp only [List.map_toArray, List.map_cons, List.map_nil]; rfl) ?_
   (with_reducible refine (laws_toRelation.calls k _ _ l0_0 _ _ l0_1 t3 t4 _ ?side1 ?side2 ?side3 ?side4 D2.out).mono ?_)
   (case side1 => exact Kd.C_below HR0_0.out (by repeat first | exact HB.out | apply below_alloc | apply pw_below_drewN | apply below_drew1))
   (case side2 => exact HC0_0.out)
   (case side3 => exact Kd.C_below HR0_1.out (by repeat first | exact HB.out | apply below_alloc | apply pw_below_drewN | apply below_drew1))
   (case side4 => exact HC0_1.out)
   rintro e w4 ⟨v4_0, v4_1, rfl, h0_, h1_, hb⟩
   (try refine ⟨_, rfl, ?_⟩)
   have hp4 : (w3.heap.size + 1) ≤ _ := Nat.le_trans (by first | exact Nat.le_refl _ | (simp; done) | (simp; omega)) hb.size
   have hq4 : (w3.heap.size + 1) ≤ w4.heap.size := hp4
   have hn := below_step (w := w3) (by repeat (first | exact Below.refl _ _ | (with_reducible first | apply below_alloc | apply pw_below_drewN | apply below_drew1))) hb
   have hs4 := below_size hn
   have hq := Aside0.mk (below_step (by repeat first | exact HB.out | apply below_alloc | apply pw_below_drewN | apply below_drew1) hb)
   have g4_0 := Aside0.mk (Kd.R_mono (ok' := (fun k_ => ((w3.heap.size + 1) ≤ k_ ∧ k_ < w4.heap.size) ∧ ((True) ∧ k_ ≠ w3.heap.size))) (Kd.R_lower (Kd.R_bound h0_) (below_size (by repeat first | exact HB.out | apply below_alloc | apply pw_below_drewN | apply below_drew1))) (fun k_ hk_ => ⟨⟨Nat.le_trans (by first | exact Nat.le_refl _ | (simp; done) | (simp; omega) : (w3.heap.size + 1) ≤ _) hk_.2.1, hk_.2.2.1⟩, ⟨hk_.1, by have z_ : (w3.heap.size + 1) ≤ k_ := Nat.le_trans (by first | exact Nat.le_refl _ | (simp; done) | (simp; omega) : (w3.heap.size + 1) ≤ _) hk_.2.1; omega⟩⟩))
   have g4_1 := Aside0.mk (Kd.S_mono (ok' := (fun k_ => ((w3.heap.size + 1) ≤ k_ ∧ k_ < w4.heap.size) ∧ ((some k_ ≠ (v4_0 : Value).ownBlock) ∧ k_ ≠ w3.heap.size))) (Kd.S_lower (Kd.S_bound h1_) (below_size (by repeat first | exact HB.out | apply below_alloc | apply pw_below_drewN | apply below_drew1))) (fun k_ hk_ => ⟨⟨Nat.le_trans (by first | exact Nat.le_refl _ | (simp; done) | (simp; omega) : (w3.heap.size + 1) ≤ _) hk_.2.1, hk_.2.2.1⟩, ⟨hk_.1, by have z_ : (w3.heap.size + 1) ≤ k_ := Nat.le_trans (by first | exact Nat.le_refl _ | (simp; done) | (simp; omega) : (w3.heap.size + 1) ≤ _) hk_.2.1; omega⟩⟩))
   have NBK0 := Aside0.mk (blk_below (g := w.heap.size) (o := .cells #[.slice A0_0 l0_0.length c0_0, .slice A0_1 l0_1.length c0_1] 42 (0, 0)) (by (with_reducible repeat (first | refine blk_drewN ?_ _ | refine blk_drew ?_ | refine blk_alloc ?_ _)); exact BK0.out) hb)
   have NBK1 := Aside0.mk (blk_below (g := (w.heap.size + 1)) (o := .cells #[.slice A1_0 l1_0.length c1_0, .slice A1_1 l1_1.length c1_1] 42 (0, 0)) (by (with_reducible repeat (first | refine blk_drewN ?_ _ | refine blk_drew ?_ | refine blk_alloc ?_ _)); exact BK1.out) hb)
   have NBK2 := Aside0.mk (blk_below (g := w3.heap.size) (o := .cells #[.slice none 0 0, .slice none 0 0] 44 (0, 0)) (by first | exact heap_alloc_new _ _ | exact blk_drewN (heap_alloc_new _ _) _ | exact blk_drew (heap_alloc_new _ _) | (have h_ := heap_alloc_new w3 (.cells #[.slice none 0 0, .slice none 0 0] 44); simpa using h_)) hb)
   (try clear BK0)
   have BK0 := NBK0
   clear NBK0
   (try clear hlb0)
   have hlb0 : w.heap.size < w4.heap.size := blk_lt BK0.out
   (try clear BK1)
   have BK1 := NBK1
   clear NBK1
   (try clear hlb1)
   have hlb1 : (w.heap.size + 1) < w4.heap.size := blk_lt BK1.out
   (try clear BK2)
   have BK2 := NBK2
   clear NBK2
   (try clear hlb2)
   have hlb2 : w3.heap.size < w4.heap.size := blk_lt BK2.out
   clear HB
   have HB := hq
   clear hq hn hb h0_ h1_
   obtain ⟨A4_0, c4_0, eo⟩ := Kd.R_slice g4_0.out
   subst eo
   obtain ⟨A4_1, c4_1, eo⟩ := Kd.S_slice g4_1.out
   subst eo
   refine hK.out _ _ ⟨(blk_cell BK0.out 0).trans rfl, (blk_cell BK0.out 1).trans rfl, (blk_cell BK1.out 0).trans rfl, (blk_cell BK1.out 1).trans rfl⟩ (fun hHeld => ?_)
   clear hK K
   refine norm_ (a' := ?_) ?_ ?_
   rotate_left
   ·show Act.put _ (some 29) _ = _
    simp only [Act.put, List.setIfInBounds_toArray, List.set_cons_zero, List.set_cons_succ, i64_w, i32_w]
    rfl
   refine one_ (i := 3) (N := some 31) #[true, true, true, true, false, false, false, false, true, false, false] rfl rfl (by kernel_rfl) (by decide) (fun K hK => ?_)
   refine goes_ Try.func21 (by kernel_rfl) rfl #[.agg #[.slice A1_0 l1_0.length c1_0, .slice A1_1 l1_1.length c1_1]] (by rfl) rfl rfl (by simp only [List.map_toArray, List.map_cons, List.map_nil]; rfl) ?_
   (with_reducible refine (laws_toRelation.calls k _ _ l1_0 _ _ l1_1 t5 t6 _ ?side1 ?side2 ?side3 ?side4 D3.out).mono ?_)
   (case side1 => exact Kd.C_below HR1_0.out (by repeat first | exact HB.out | apply below_alloc | apply pw_below_drewN | apply below_drew1))
   (case side2 => exact HC1_0.out)
   (case side3 => exact Kd.C_below HR1_1.out (by repeat first | exact HB.out | apply below_alloc | apply pw_below_drewN | apply below_drew1))
   (case side4 => exact HC1_1.out)
   rintro e w5 ⟨v5_0, v5_1, rfl, h0_, h1_, hb⟩
   (try refine ⟨_, rfl, ?_⟩)
   have hn := below_step (w := w4) (by repeat (first | exact Below.refl _ _ | (with_reducible first | apply below_alloc | apply pw_below_drewN | apply below_drew1))) hb
   have hs5 := below_size hn
   have hq := Aside0.mk (below_step (by repeat first | exact HB.out | apply below_alloc | apply pw_below_drewN | apply below_drew1) hb)
   have g5_0 := Aside0.mk (Kd.R_mono (ok' := (fun k_ => (w4.heap.size ≤ k_ ∧ k_ < w5.heap.size) ∧ ((True) ∧ k_ ≠ w3.heap.size))) (Kd.R_lower (Kd.R_bound h0_) (below_size (by repeat first | exact HB.out | apply below_alloc | apply pw_below_drewN | apply below_drew1))) (fun k_ hk_ => ⟨⟨Nat.le_trans (below_size (w := w4) (by repeat (first | exact Below.refl _ _ | (with_reducible first | apply below_alloc | apply pw_below_drewN | apply below_drew1)))) hk_.2.1, hk_.2.2.1⟩, ⟨hk_.1, by have z_ : w4.heap.size ≤ k_ := Nat.le_trans (below_size (w := w4) (by repeat (first | exact Below.refl _ _ | (with_reducible first | apply below_alloc | apply pw_below_drewN | apply below_drew1)))) hk_.2.1; omega⟩⟩))
   have g5_1 := Aside0.mk (Kd.S_mono (ok' := (fun k_ => (w4.heap.size ≤ k_ ∧ k_ < w5.heap.size) ∧ ((some k_ ≠ (v5_0 : Value).ownBlock) ∧ k_ ≠ w3.heap.size))) (Kd.S_lower (Kd.S_bound h1_) (below_size (by repeat first | exact HB.out | apply below_alloc | apply pw_below_drewN | apply below_drew1))) (fun k_ hk_ => ⟨⟨Nat.le_trans (below_size (w := w4) (by repeat (first | exact Below.refl _ _ | (with_reducible first | apply below_alloc | apply pw_below_drewN | apply below_drew1)))) hk_.2.1, hk_.2.2.1⟩, ⟨hk_.1, by have z_ : w4.heap.size ≤ k_ := Nat.le_trans (below_size (w := w4) (by repeat (first | exact Below.refl _ _ | (with_reducible first | apply below_alloc | apply pw_below_drewN | apply below_drew1)))) hk_.2.1; omega⟩⟩))
   have F15 := Aside0.mk (Kd.R_below g4_0.out hn)
   have F16 := Aside0.mk (Kd.S_below g4_1.out hn)
   have NBK0 := Aside0.mk (blk_below (g := w.heap.size) (o := .cells #[.slice A0_0 l0_0.length c0_0, .slice A0_1 l0_1.length c0_1] 42 (0, 0)) (by (with_reducible repeat (first | refine blk_drewN ?_ _ | refine blk_drew ?_ | refine blk_alloc ?_ _)); exact BK0.out) hb)
   have NBK1 := Aside0.mk (blk_below (g := (w.heap.size + 1)) (o := .cells #[.slice A1_0 l1_0.length c1_0, .slice A1_1 l1_1.length c1_1] 42 (0, 0)) (by (with_reducible repeat (first | refine blk_drewN ?_ _ | refine blk_drew ?_ | refine blk_alloc ?_ _)); exact BK1.out) hb)
   have NBK2 := Aside0.mk (blk_below (g := w3.heap.size) (o := .cells #[.slice none 0 0, .slice none 0 0] 44 (0, 0)) (by (with_reducible repeat (first | refine blk_drewN ?_ _ | refine blk_drew ?_ | refine blk_alloc ?_ _)); exact BK2.out) hb)
   (try clear BK0)
   have BK0 := NBK0
   clear NBK0
   (try clear hlb0)
   have hlb0 : w.heap.size < w5.heap.size := blk_lt BK0.out
   (try clear BK1)
   have BK1 := NBK1
   clear NBK1
   (try clear hlb1)
   have hlb1 : (w.heap.size + 1) < w5.heap.size := blk_lt BK1.out
   (try clear BK2)
   have BK2 := NBK2
   clear NBK2
   (try clear hlb2)
   have hlb2 : w3.heap.size < w5.heap.size := blk_lt BK2.out
   clear HB g4_0 g4_1
   have HB := hq
   clear hq hn hb h0_ h1_
   obtain ⟨A5_0, c5_0, eo⟩ := Kd.R_slice g5_0.out
   subst eo
   obtain ⟨A5_1, c5_1, eo⟩ := Kd.S_slice g5_1.out
   subst eo
   refine hK.out _ _ ⟨(blk_cell BK0.out 0).trans rfl, (blk_cell BK0.out 1).trans rfl, (blk_cell BK1.out 0).trans rfl, (blk_cell BK1.out 1).trans rfl⟩ (fun hHeld => ?_)
   clear hK K
   refine norm_ (a' := ?_) ?_ ?_
   rotate_left
   ·show Act.put _ (some 31) _ = _
    simp only [Act.put, List.setIfInBounds_toArray, List.set_cons_zero, List.set_cons_succ, i64_w, i32_w]
    rfl
   refine one_ (i := 4) (N := some 32) #[true, true, true, true, true, false, false, false, true, false, false] rfl rfl (by kernel_rfl) (by decide) (fun K hK => ?_)
   refine goes_ Try.func26 (by kernel_rfl) rfl #[.agg #[.slice A4_0 t3.length c4_0, .slice A4_1 t4.length c4_1], .agg #[.slice A5_0 t5.length c5_0, .slice A5_1 t6.length c5_1]] (by rfl) rfl rfl (by simp only [List.map_toArray, List.map_cons, List.map_nil]; rfl) ?_
   (with_reducible refine (spec_WithoutOf.calls k _ _ t3 (fun k_ => ((w3.heap.size + 1) ≤ k_ ∧ k_ < w4.heap.size) ∧ ((some k_ ≠ (.slice A4_0 t3.length c4_0 : Value).ownBlock) ∧ k_ ≠ w3.heap.size)) _ _ t4 _ _ t5 _ _ t6 t9 t10 t11 _ ?side1 ?side2 ?side3 ?side4 ?side5 ?side6 ?side7 D4.out).mono ?_)
   (case side1 => repeat (first | exact (Kd.R_reads' F15.out).2.2 | (with_reducible refine Kd.C_alloc ?_ _) | (with_reducible refine Kd.C_drewN ?_ _) | (with_reducible refine Kd.C_drew ?_)))
   (case side2 => exact (Kd.R_reads' F15.out).2.1)
   (case side3 => repeat (first | exact Kd.S_V F16.out | (with_reducible refine Kd.V_alloc ?_ _) | (with_reducible refine Kd.V_drewN ?_ _) | (with_reducible refine Kd.V_drew ?_)))
   (case side4 => repeat (first | exact (Kd.R_reads' g5_0.out).2.2 | (with_reducible refine Kd.C_alloc ?_ _) | (with_reducible refine Kd.C_drewN ?_ _) | (with_reducible refine Kd.C_drew ?_)))
   (case side5 => exact (Kd.R_reads' g5_0.out).2.1)
   (case side6 => repeat (first | exact (Kd.S_reads' g5_1.out).2.2 | (with_reducible refine Kd.C_alloc ?_ _) | (with_reducible refine Kd.C_drewN ?_ _) | (with_reducible refine Kd.C_drew ?_)))
   (case side7 => exact (Kd.S_reads' g5_1.out).2.1)
   rintro e w6 ⟨v6_0, v6_1, rfl, h0_, h1_, hb⟩
   (try refine ⟨_, rfl, ?_⟩)
   have hn := below_step (w := w5) (by repeat (first | exact Below.refl _ _ | (with_reducible first | apply below_alloc | apply pw_below_drewN | apply below_drew1))) hb
   have hs6 := below_size hn
   have hq := Aside0.mk (below_step (by repeat first | exact HB.out | apply below_alloc | apply pw_below_drewN | apply below_drew1) hb)
   have g6_0 := Aside0.mk (Kd.R_mono (ok' := (fun k_ => (w5.heap.size ≤ k_ ∧ k_ < w6.heap.size) ∧ ((True) ∧ k_ ≠ w3.heap.size))) (Kd.R_lower (Kd.R_bound h0_) (below_size (by repeat first | exact HB.out | apply below_alloc | apply pw_below_drewN | apply below_drew1))) (fun k_ hk_ => ⟨⟨Nat.le_trans (below_size (w := w5) (by repeat (first | exact Below.refl _ _ | (with_reducible first | apply below_alloc | apply pw_below_drewN | apply below_drew1)))) hk_.2.1, hk_.2.2.1⟩, ⟨trivial, by have z_ : w5.heap.size ≤ k_ := Nat.le_trans (below_size (w := w5) (by repeat (first | exact Below.refl _ _ | (with_reducible first | apply below_alloc | apply pw_below_drewN | apply below_drew1)))) hk_.2.1; omega⟩⟩))
   have g6_1 := Aside0.mk (Kd.V_mono (ok' := (fun k_ => ((w3.heap.size + 1) ≤ k_ ∧ k_ < w6.heap.size) ∧ ((True) ∧ k_ ≠ w3.heap.size))) (Kd.V_lower (Kd.V_bound h1_) (below_size (by repeat first | exact HB.out | apply below_alloc | apply pw_below_drewN | apply below_drew1))) (fun k_ hk2_ => ⟨⟨by (have hk_ := hk2_.1; (try replace hk_ := hk_.1); rcases hk_ with (hk_ | hk_); all_goals first | (exact Nat.le_trans (by first | exact Nat.le_refl _ | omega) hk_.1.1) | (exact Nat.le_trans (Nat.le_trans (by first | exact Nat.le_refl _ | omega : (w3.heap.size + 1) ≤ w5.heap.size) (below_size (w := w5) (by repeat (first | exact Below.refl _ _ | (with_reducible first | apply below_alloc | apply pw_below_drewN | apply below_drew1))))) hk_)), hk2_.2⟩, ⟨trivial, by (have hk_ := hk2_.1; (try replace hk_ := hk_.1); rcases hk_ with (hk_ | hk_); all_goals first | exact hk_.2.2 | (have z_ := hk_.1; omega) | (have z_ : w5.heap.size ≤ k_ := Nat.le_trans (by first | exact Nat.le_refl _ | (simp; done) | (simp; omega)) hk_; omega))⟩⟩))
   clear F16
   have F17 := Aside0.mk (Kd.R_below F15.out hn)
   have F18 := Aside0.mk (Kd.R_below g5_0.out hn)
   have F19 := Aside0.mk (Kd.S_below g5_1.out hn)
   have NBK0 := Aside0.mk (blk_below (g := w.heap.size) (o := .cells #[.slice A0_0 l0_0.length c0_0, .slice A0_1 l0_1.length c0_1] 42 (0, 0)) (by (with_reducible repeat (first | refine blk_drewN ?_ _ | refine blk_drew ?_ | refine blk_alloc ?_ _)); exact BK0.out) hb)
   have NBK1 := Aside0.mk (blk_below (g := (w.heap.size + 1)) (o := .cells #[.slice A1_0 l1_0.length c1_0, .slice A1_1 l1_1.length c1_1] 42 (0, 0)) (by (with_reducible repeat (first | refine blk_drewN ?_ _ | refine blk_drew ?_ | refine blk_alloc ?_ _)); exact BK1.out) hb)
   have NBK2 := Aside0.mk (blk_below (g := w3.heap.size) (o := .cells #[.slice none 0 0, .slice none 0 0] 44 (0, 0)) (by (with_reducible repeat (first | refine blk_drewN ?_ _ | refine blk_drew ?_ | refine blk_alloc ?_ _)); exact BK2.out) hb)
   (try clear BK0)
   have BK0 := NBK0
   clear NBK0
   (try clear hlb0)
   have hlb0 : w.heap.size < w6.heap.size := blk_lt BK0.out
   (try clear BK1)
   have BK1 := NBK1
   clear NBK1
   (try clear hlb1)
   have hlb1 : (w.heap.size + 1) < w6.heap.size := blk_lt BK1.out
   (try clear BK2)
   have BK2 := NBK2
   clear NBK2
   (try clear hlb2)
   have hlb2 : w3.heap.size < w6.heap.size := blk_lt BK2.out
   clear HB F15 g5_0 g5_1
   have HB := hq
   clear hq hn hb h0_ h1_
   obtain ⟨A6_0, c6_0, eo⟩ := Kd.R_slice g6_0.out
   subst eo
   obtain ⟨A6_1, c6_1, eo⟩ := Kd.V_slice g6_1.out
   subst eo
   refine hK.out _ _ ⟨(blk_cell BK0.out 0).trans rfl, (blk_cell BK0.out 1).trans rfl, (blk_cell BK1.out 0).trans rfl, (blk_cell BK1.out 1).trans rfl⟩ (fun hHeld => ?_)
   clear hK K
   refine norm_ (a' := ?_) ?_ ?_
   rotate_left
   ·show Act.put _ (some 32) _ = _
    simp only [Act.put, List.setIfInBounds_toArray, List.set_cons_zero, List.set_cons_succ, i64_w, i32_w]
    rfl
   refine pure_ (i := 5) (N := some 27) (v := ?_) (a' := ?_) #[true, true, true, true, true, true, false, false, true, false, false] rfl rfl (by kernel_rfl) (fun _ _ _ h => h) (Or.inl ⟨by rfl, ?_⟩) ?_ ?_
   rotate_left
   ·intro w'
    go_simp
    with_reducible rfl
   rotate_left
   ·simp only [Act.put, List.setIfInBounds_toArray, List.set_cons_zero, List.set_cons_succ, i64_w, i32_w]
    rfl
   refine pure_ (i := 6) (N := some 33) (v := ?_) (a' := ?_) #[true, true, true, true, true, true, true, false, true, false, false] rfl rfl (by kernel_rfl) (fun _ _ _ h => h) (Or.inl ⟨by rfl, ?_⟩) ?_ ?_
   rotate_left
   ·intro w'
    go_simp
    with_reducible rfl
   rotate_left
   ·simp only [Act.put, List.setIfInBounds_toArray, List.set_cons_zero, List.set_cons_succ, i64_w, i32_w]
    rfl
   refine pure_ (i := 7) (N := some 34) (v := ?_) (a' := ?_) #[true, true, true, true, true, true, true, true, true, false, false] rfl rfl (by kernel_rfl) (fun _ _ _ h => h) (Or.inl ⟨by rfl, ?_⟩) ?_ ?_
   rotate_left
   ·intro w'
    go_simp
    with_reducible rfl
   rotate_left
   ·simp only [Act.put, List.setIfInBounds_toArray, List.set_cons_zero, List.set_cons_succ, i64_w, i32_w]
    rfl
   exact norm_ (by simp only [putAll, Act.put, List.setIfInBounds_toArray, List.set_cons_zero, List.set_cons_succ]) (hCont (w4, w5, w6, A4_0, c4_0, A4_1, c4_1, A5_0, c5_0, A5_1, c5_1, A6_0, c6_0, A6_1, c6_1, w3.heap.size) _ (by dsimp only; exact ⟨hs4, hs5, hs6, (by first | exact Nat.le_refl _ | (simp; done) | (simp; omega)), (by omega), (by first | omega | (simp; done) | (simp; omega)), BK2.out, (by repeat first | exact HB.out | apply below_alloc | apply pw_below_drewN | apply below_drew1), (Kd.R_mono F17.out (fun k_ hk_ => ⟨⟨by have z_ := hk_.1.1; omega, hk_.1.2⟩, hk_.2⟩)), (Kd.R_mono F18.out (fun k_ hk_ => ⟨⟨by have z_ := hk_.1.1; omega, hk_.1.2⟩, hk_.2⟩)), (Kd.S_mono F19.out (fun k_ hk_ => ⟨⟨by have z_ := hk_.1.1; omega, hk_.1.2⟩, hk_.2⟩)), (Kd.R_mono g6_0.out (fun k_ hk_ => ⟨⟨by have z_ := hk_.1.1; omega, hk_.1.2⟩, hk_.2⟩)), (Kd.V_mono g6_1.out (fun k_ hk_ => ⟨⟨by have z_ := hk_.1.1; omega, hk_.1.2⟩, hk_.2⟩)), BK0.out, BK1.out⟩))
 rintro ⟨w4, w5, w6, A4_0, c4_0, A4_1, c4_1, A5_0, c5_0, A5_1, c5_1, A6_0, c6_0, A6_1, c6_1, gx8⟩ w7 hF_
 dsimp only at hF_
 obtain ⟨hs4, hs5, hs6, hs7, hg18, hg28, hBZ, hHB, hF21, hF22, hF23, hF24, hF25, hBK0, hBK1⟩ := hF_
 clear HB hHeld 
 have HB := Aside0.mk hHB
 clear hHB
 have F21 := Aside0.mk hF21
 have F22 := Aside0.mk hF22
 have F23 := Aside0.mk hF23
 have F24 := Aside0.mk hF24
 have F25 := Aside0.mk hF25
 clear hF21 hF22 hF23 hF24 hF25
 (try clear BK0)
 have BK0 := Aside0.mk hBK0
 clear hBK0
 (try clear hlb0)
 have hlb0 : w.heap.size < w7.heap.size := blk_lt BK0.out
 (try clear BK1)
 have BK1 := Aside0.mk hBK1
 clear hBK1
 (try clear hlb1)
 have hlb1 : (w.heap.size + 1) < w7.heap.size := blk_lt BK1.out
 have hHeld : w7.cell? ⟨w.heap.size, 0, none⟩ = some (.slice A0_0 l0_0.length c0_0) ∧ w7.cell? ⟨w.heap.size, 1, none⟩ = some (.slice A0_1 l0_1.length c0_1) ∧ w7.cell? ⟨(w.heap.size + 1), 0, none⟩ = some (.slice A1_0 l1_0.length c1_0) ∧ w7.cell? ⟨(w.heap.size + 1), 1, none⟩ = some (.slice A1_1 l1_1.length c1_1) := ⟨(blk_cell BK0.out 0).trans rfl, (blk_cell BK0.out 1).trans rfl, (blk_cell BK1.out 0).trans rfl, (blk_cell BK1.out 1).trans rfl⟩
 refine norm_ (a' := ?_) ?_ ?_
 rotate_left
 ·simp only [putAll, Act.put, List.setIfInBounds_toArray, List.set_cons_zero, List.set_cons_succ]
  rfl
 refine last_ (i := 9) (N := none) #[true, true, true, true, true, true, true, true, true, true, false] rfl rfl (by kernel_rfl) (by decide) (fun K hK => ?_)
 have hz0 : w7.cell? ⟨gx8, 0, none⟩ = some (.slice none 0 0) := (blk_cell hBZ 0).trans rfl
 have hz1 : w7.cell? ⟨gx8, 1, none⟩ = some (.slice none 0 0) := (blk_cell hBZ 1).trans rfl
 have hzf0 : w7.frozen? ⟨gx8, 0, none⟩ = false := blk_frozen hBZ 0
 have hzf1 : w7.frozen? ⟨gx8, 1, none⟩ = false := blk_frozen hBZ 1
 refine skip_ (w1 := ?_) (by rfl) rfl ?_ ?_
 rotate_left
 ·go_simp
  rfl
 refine hK.out _ _ ?_
 clear hK K
 refine letter_ (fun w' => Kept w7 w' (fun k_ => k_ = gx8) ∧ w'.heap[gx8]? = some (.cells #[.slice A6_0 t9.length c6_0, .slice A6_1 t10.length c6_1] 44 (0, 0)) ∧ Below w.heap.size w w') ⟨(Kept.setCell (p := ⟨gx8, 1, none⟩) (Kept.setCell (p := ⟨gx8, 0, none⟩) (Kept.refl w7 (fun k_ => k_ = gx8)) (Or.inl (show _ = _ from rfl)) _) (Or.inl (show _ = _ from rfl)) _), (blk_put (cs' := #[.slice A6_0 t9.length c6_0, .slice A6_1 t10.length c6_1]) (blk_put (cs' := #[.slice A6_0 t9.length c6_0, .slice none 0 0]) hBZ 0 _ rfl) 1 _ rfl), by repeat (first | exact HB.out | refine Below.setCell ?_ (by show w.heap.size ≤ gx8; have := HB.out.size; have := hs3; omega) _)⟩ ?_
 rintro w8 ⟨hK9, hBK2, hB9⟩
 have hs8 : w7.heap.size ≤ w8.heap.size := hK9.1
 have NBK0 := blk_kept (o := .cells #[.slice A0_0 l0_0.length c0_0, .slice A0_1 l0_1.length c0_1] 42 (0, 0)) BK0.out hK9 (fun he_ => by omega)
 have NBK1 := blk_kept (o := .cells #[.slice A1_0 l1_0.length c1_0, .slice A1_1 l1_1.length c1_1] 42 (0, 0)) BK1.out hK9 (fun he_ => by omega)
 have F26 := Aside0.mk (Kd.R_kept F21.out hK9 (fun k_ hk_ he_ => by first | exact hk_.2.2 he_ | (have z_ := hk_.1; omega)))
 have F27 := Aside0.mk (Kd.R_kept F22.out hK9 (fun k_ hk_ he_ => by first | exact hk_.2.2 he_ | (have z_ := hk_.1; omega)))
 have F28 := Aside0.mk (Kd.S_kept F23.out hK9 (fun k_ hk_ he_ => by first | exact hk_.2.2 he_ | (have z_ := hk_.1; omega)))
 have F29 := Aside0.mk (Kd.R_kept F24.out hK9 (fun k_ hk_ he_ => by first | exact hk_.2.2 he_ | (have z_ := hk_.1; omega)))
 have F30 := Aside0.mk (Kd.V_kept F25.out hK9 (fun k_ hk_ he_ => by first | exact hk_.2.2 he_ | (have z_ := hk_.1; omega)))
 clear HB hBZ F21 F22 F23 F24 F25
 have HB := Aside0.mk hB9
 (try clear BK0)
 have BK0 := Aside0.mk NBK0
 clear NBK0
 (try clear hlb0)
 have hlb0 : w.heap.size < w8.heap.size := blk_lt BK0.out
 (try clear cb0_0)
 have cb0_0 : w8.cell? ⟨w.heap.size, 0, none⟩ = some (.slice A0_0 l0_0.length c0_0) := (blk_cell BK0.out 0).trans rfl
 (try clear cb0_1)
 have cb0_1 : w8.cell? ⟨w.heap.size, 1, none⟩ = some (.slice A0_1 l0_1.length c0_1) := (blk_cell BK0.out 1).trans rfl
 (try clear BK1)
 have BK1 := Aside0.mk NBK1
 clear NBK1
 (try clear hlb1)
 have hlb1 : (w.heap.size + 1) < w8.heap.size := blk_lt BK1.out
 (try clear cb1_0)
 have cb1_0 : w8.cell? ⟨(w.heap.size + 1), 0, none⟩ = some (.slice A1_0 l1_0.length c1_0) := (blk_cell BK1.out 0).trans rfl
 (try clear cb1_1)
 have cb1_1 : w8.cell? ⟨(w.heap.size + 1), 1, none⟩ = some (.slice A1_1 l1_1.length c1_1) := (blk_cell BK1.out 1).trans rfl
 have hBK2_ := hBK2
 (try clear BK2)
 have BK2 := Aside0.mk hBK2
 clear hBK2
 (try clear hlb2)
 have hlb2 : gx8 < w8.heap.size := blk_lt BK2.out
 (try clear cb2_0)
 have cb2_0 : w8.cell? ⟨gx8, 0, none⟩ = some (.slice A6_0 t9.length c6_0) := (blk_cell BK2.out 0).trans rfl
 (try clear cb2_1)
 have cb2_1 : w8.cell? ⟨gx8, 1, none⟩ = some (.slice A6_1 t10.length c6_1) := (blk_cell BK2.out 1).trans rfl
 clear hB9 hK9
 refine pure_ (i := 10) (N := some 7) (v := ?_) (a' := ?_) #[true, true, true, true, true, true, true, true, true, true, true] rfl rfl (by kernel_rfl) (fun _ _ _ h => h) (Or.inl ⟨by rfl, ?_⟩) ?_ ?_
 rotate_left
 ·intro w'
  go_simp
  with_reducible rfl
 rotate_left
 ·simp only [Act.put, List.setIfInBounds_toArray, List.set_cons_zero, List.set_cons_succ, i64_w, i32_w]
  rfl
 refine done_ (by kernel_rfl) ?_
 
 go_wp2_with (first | ((first | ((with_reducible refine gate_callee (f := 21) rfl ?_); refine goesL_ (some 36) rfl rfl Try.func21 (by kernel_rfl) rfl #[.agg #[.slice A0_0 l0_0.length c0_0, .slice A0_1 l0_1.length c0_1]] rfl (by (try simp only [List.map_toArray, List.map_cons, List.map_nil]); first | done | rfl | (simp only [List.length_drop, List.length_take]; rfl)) ?_) | go_at_call 21); (with_reducible refine (laws_toRelation.calls k _ _ l0_0 _ _ l0_1 t3 t4 _ ?side1 ?side2 ?side3 ?side4 D2.out).mono ?_); (case side1 => exact Kd.C_below HR0_0.out (by repeat first | exact HB.out | apply below_alloc | apply pw_below_drewN | apply below_drew1)); (case side2 => exact HC0_0.out); (case side3 => exact Kd.C_below HR0_1.out (by repeat first | exact HB.out | apply below_alloc | apply pw_below_drewN | apply below_drew1)); (case side4 => exact HC0_1.out); rintro e w9 ⟨v9_0, v9_1, rfl, h0_, h1_, hb⟩; (try refine ⟨_, rfl, ?_⟩); have hn := below_step (w := w8) (by repeat (first | exact Below.refl _ _ | (with_reducible first | apply below_alloc | apply pw_below_drewN | apply below_drew1))) hb; have hs9 := below_size hn; have hq := Aside0.mk (below_step (by repeat first | exact HB.out | apply below_alloc | apply pw_below_drewN | apply below_drew1) hb); have g9_0 := Aside0.mk (Kd.R_mono (ok' := (fun k_ => (w8.heap.size ≤ k_ ∧ k_ < w9.heap.size) ∧ (True))) (Kd.R_lower (Kd.R_bound h0_) (below_size (by repeat first | exact HB.out | apply below_alloc | apply pw_below_drewN | apply below_drew1))) (fun k_ hk_ => ⟨⟨Nat.le_trans (below_size (w := w8) (by repeat (first | exact Below.refl _ _ | (with_reducible first | apply below_alloc | apply pw_below_drewN | apply below_drew1)))) hk_.2.1, hk_.2.2.1⟩, hk_.1⟩)); have g9_1 := Aside0.mk (Kd.S_mono (ok' := (fun k_ => (w8.heap.size ≤ k_ ∧ k_ < w9.heap.size) ∧ (some k_ ≠ (v9_0 : Value).ownBlock))) (Kd.S_lower (Kd.S_bound h1_) (below_size (by repeat first | exact HB.out | apply below_alloc | apply pw_below_drewN | apply below_drew1))) (fun k_ hk_ => ⟨⟨Nat.le_trans (below_size (w := w8) (by repeat (first | exact Below.refl _ _ | (with_reducible first | apply below_alloc | apply pw_below_drewN | apply below_drew1)))) hk_.2.1, hk_.2.2.1⟩, hk_.1⟩)); have F31 := Aside0.mk (Kd.R_below F29.out hn); have F32 := Aside0.mk (Kd.V_below F30.out hn); have NBK0 := Aside0.mk (blk_below (g := w.heap.size) (o := .cells #[.slice A0_0 l0_0.length c0_0, .slice A0_1 l0_1.length c0_1] 42 (0, 0)) (by (with_reducible repeat (first | refine blk_drewN ?_ _ | refine blk_drew ?_ | refine blk_alloc ?_ _)); exact BK0.out) hb); have NBK1 := Aside0.mk (blk_below (g := (w.heap.size + 1)) (o := .cells #[.slice A1_0 l1_0.length c1_0, .slice A1_1 l1_1.length c1_1] 42 (0, 0)) (by (with_reducible repeat (first | refine blk_drewN ?_ _ | refine blk_drew ?_ | refine blk_alloc ?_ _)); exact BK1.out) hb); have NBK2 := Aside0.mk (blk_below (g := gx8) (o := .cells #[.slice A6_0 t9.length c6_0, .slice A6_1 t10.length c6_1] 44 (0, 0)) (by (with_reducible repeat (first | refine blk_drewN ?_ _ | refine blk_drew ?_ | refine blk_alloc ?_ _)); exact BK2.out) hb); (try clear BK0); have BK0 := NBK0; clear NBK0; (try clear hlb0); have hlb0 : w.heap.size < w9.heap.size := blk_lt BK0.out; (try clear cb0_0); have cb0_0 : w9.cell? ⟨w.heap.size, 0, none⟩ = some (.slice A0_0 l0_0.length c0_0) := (blk_cell BK0.out 0).trans rfl; (try clear cb0_1); have cb0_1 : w9.cell? ⟨w.heap.size, 1, none⟩ = some (.slice A0_1 l0_1.length c0_1) := (blk_cell BK0.out 1).trans rfl; (try clear BK1); have BK1 := NBK1; clear NBK1; (try clear hlb1); have hlb1 : (w.heap.size + 1) < w9.heap.size := blk_lt BK1.out; (try clear cb1_0); have cb1_0 : w9.cell? ⟨(w.heap.size + 1), 0, none⟩ = some (.slice A1_0 l1_0.length c1_0) := (blk_cell BK1.out 0).trans rfl; (try clear cb1_1); have cb1_1 : w9.cell? ⟨(w.heap.size + 1), 1, none⟩ = some (.slice A1_1 l1_1.length c1_1) := (blk_cell BK1.out 1).trans rfl; (try clear BK2); have BK2 := NBK2; clear NBK2; (try clear hlb2); have hlb2 : gx8 < w9.heap.size := blk_lt BK2.out; (try clear cb2_0); have cb2_0 : w9.cell? ⟨gx8, 0, none⟩ = some (.slice A6_0 t9.length c6_0) := (blk_cell BK2.out 0).trans rfl; (try clear cb2_1); have cb2_1 : w9.cell? ⟨gx8, 1, none⟩ = some (.slice A6_1 t10.length c6_1) := (blk_cell BK2.out 1).trans rfl; clear HB F29 F30; have HB := hq; clear hq hn hb h0_ h1_; obtain ⟨A9_0, c9_0, eo⟩ := Kd.R_slice g9_0.out; subst eo; obtain ⟨A9_1, c9_1, eo⟩ := Kd.S_slice g9_1.out; subst eo) | ((first | ((with_reducible refine gate_callee (f := 21) rfl ?_); refine goesL_ (some 38) rfl rfl Try.func21 (by kernel_rfl) rfl #[.agg #[.slice A1_0 l1_0.length c1_0, .slice A1_1 l1_1.length c1_1]] rfl (by (try simp only [List.map_toArray, List.map_cons, List.map_nil]); first | done | rfl | (simp only [List.length_drop, List.length_take]; rfl)) ?_) | go_at_call 21); (with_reducible refine (laws_toRelation.calls k _ _ l1_0 _ _ l1_1 t5 t6 _ ?side1 ?side2 ?side3 ?side4 D3.out).mono ?_); (case side1 => exact Kd.C_below HR1_0.out (by repeat first | exact HB.out | apply below_alloc | apply pw_below_drewN | apply below_drew1)); (case side2 => exact HC1_0.out); (case side3 => exact Kd.C_below HR1_1.out (by repeat first | exact HB.out | apply below_alloc | apply pw_below_drewN | apply below_drew1)); (case side4 => exact HC1_1.out); rintro e w10 ⟨v10_0, v10_1, rfl, h0_, h1_, hb⟩; (try refine ⟨_, rfl, ?_⟩); have hp10 : (w9.heap.size + 1) ≤ _ := Nat.le_trans (by first | exact Nat.le_refl _ | (simp; done) | (simp; omega)) hb.size; have hq10 : (w9.heap.size + 1) ≤ w10.heap.size := hp10; have hn := below_step (w := w9) (by repeat (first | exact Below.refl _ _ | (with_reducible first | apply below_alloc | apply pw_below_drewN | apply below_drew1))) hb; have hs10 := below_size hn; have hq := Aside0.mk (below_step (by repeat first | exact HB.out | apply below_alloc | apply pw_below_drewN | apply below_drew1) hb); have g10_0 := Aside0.mk (Kd.R_mono (ok' := (fun k_ => ((w9.heap.size + 1) ≤ k_ ∧ k_ < w10.heap.size) ∧ (True))) (Kd.R_lower (Kd.R_bound h0_) (below_size (by repeat first | exact HB.out | apply below_alloc | apply pw_below_drewN | apply below_drew1))) (fun k_ hk_ => ⟨⟨Nat.le_trans (by first | exact Nat.le_refl _ | (simp; done) | (simp; omega) : (w9.heap.size + 1) ≤ _) hk_.2.1, hk_.2.2.1⟩, hk_.1⟩)); have g10_1 := Aside0.mk (Kd.S_mono (ok' := (fun k_ => ((w9.heap.size + 1) ≤ k_ ∧ k_ < w10.heap.size) ∧ (some k_ ≠ (v10_0 : Value).ownBlock))) (Kd.S_lower (Kd.S_bound h1_) (below_size (by repeat first | exact HB.out | apply below_alloc | apply pw_below_drewN | apply below_drew1))) (fun k_ hk_ => ⟨⟨Nat.le_trans (by first | exact Nat.le_refl _ | (simp; done) | (simp; omega) : (w9.heap.size + 1) ≤ _) hk_.2.1, hk_.2.2.1⟩, hk_.1⟩)); have F33 := Aside0.mk (Kd.R_below F31.out hn); have F34 := Aside0.mk (Kd.V_below F32.out hn); have F35 := Aside0.mk (Kd.R_below g9_0.out hn); have F36 := Aside0.mk (Kd.S_below g9_1.out hn); have NBK0 := Aside0.mk (blk_below (g := w.heap.size) (o := .cells #[.slice A0_0 l0_0.length c0_0, .slice A0_1 l0_1.length c0_1] 42 (0, 0)) (by (with_reducible repeat (first | refine blk_drewN ?_ _ | refine blk_drew ?_ | refine blk_alloc ?_ _)); exact BK0.out) hb); have NBK1 := Aside0.mk (blk_below (g := (w.heap.size + 1)) (o := .cells #[.slice A1_0 l1_0.length c1_0, .slice A1_1 l1_1.length c1_1] 42 (0, 0)) (by (with_reducible repeat (first | refine blk_drewN ?_ _ | refine blk_drew ?_ | refine blk_alloc ?_ _)); exact BK1.out) hb); have NBK2 := Aside0.mk (blk_below (g := gx8) (o := .cells #[.slice A6_0 t9.length c6_0, .slice A6_1 t10.length c6_1] 44 (0, 0)) (by (with_reducible repeat (first | refine blk_drewN ?_ _ | refine blk_drew ?_ | refine blk_alloc ?_ _)); exact BK2.out) hb); have NBK3 := Aside0.mk (blk_below (g := w9.heap.size) (o := .cells #[.slice A9_0 t3.length c9_0, .slice A9_1 t4.length c9_1] 44 (0, 0)) (by first | exact heap_alloc_new _ _ | exact blk_drewN (heap_alloc_new _ _) _ | exact blk_drew (heap_alloc_new _ _) | (have h_ := heap_alloc_new w9 (.cells #[.slice A9_0 t3.length c9_0, .slice A9_1 t4.length c9_1] 44); simpa using h_)) hb); (try clear BK0); have BK0 := NBK0; clear NBK0; (try clear hlb0); have hlb0 : w.heap.size < w10.heap.size := blk_lt BK0.out; (try clear cb0_0); have cb0_0 : w10.cell? ⟨w.heap.size, 0, none⟩ = some (.slice A0_0 l0_0.length c0_0) := (blk_cell BK0.out 0).trans rfl; (try clear cb0_1); have cb0_1 : w10.cell? ⟨w.heap.size, 1, none⟩ = some (.slice A0_1 l0_1.length c0_1) := (blk_cell BK0.out 1).trans rfl; (try clear BK1); have BK1 := NBK1; clear NBK1; (try clear hlb1); have hlb1 : (w.heap.size + 1) < w10.heap.size := blk_lt BK1.out; (try clear cb1_0); have cb1_0 : w10.cell? ⟨(w.heap.size + 1), 0, none⟩ = some (.slice A1_0 l1_0.length c1_0) := (blk_cell BK1.out 0).trans rfl; (try clear cb1_1); have cb1_1 : w10.cell? ⟨(w.heap.size + 1), 1, none⟩ = some (.slice A1_1 l1_1.length c1_1) := (blk_cell BK1.out 1).trans rfl; (try clear BK2); have BK2 := NBK2; clear NBK2; (try clear hlb2); have hlb2 : gx8 < w10.heap.size := blk_lt BK2.out; (try clear cb2_0); have cb2_0 : w10.cell? ⟨gx8, 0, none⟩ = some (.slice A6_0 t9.length c6_0) := (blk_cell BK2.out 0).trans rfl; (try clear cb2_1); have cb2_1 : w10.cell? ⟨gx8, 1, none⟩ = some (.slice A6_1 t10.length c6_1) := (blk_cell BK2.out 1).trans rfl; (try clear BK3); have BK3 := NBK3; clear NBK3; (try clear hlb3); have hlb3 : w9.heap.size < w10.heap.size := blk_lt BK3.out; (try clear cb3_0); have cb3_0 : w10.cell? ⟨w9.heap.size, 0, none⟩ = some (.slice A9_0 t3.length c9_0) := (blk_cell BK3.out 0).trans rfl; (try clear cb3_1); have cb3_1 : w10.cell? ⟨w9.heap.size, 1, none⟩ = some (.slice A9_1 t4.length c9_1) := (blk_cell BK3.out 1).trans rfl; clear HB F31 F32 g9_0 g9_1; have HB := hq; clear hq hn hb h0_ h1_; obtain ⟨A10_0, c10_0, eo⟩ := Kd.R_slice g10_0.out; subst eo; obtain ⟨A10_1, c10_1, eo⟩ := Kd.S_slice g10_1.out; subst eo) | ((first | ((with_reducible refine gate_callee (f := 27) rfl ?_); refine goesL_ (some 42) rfl rfl Try.func27 (by kernel_rfl) rfl #[.agg #[.slice A9_0 t3.length c9_0, .slice A9_1 t4.length c9_1], .agg #[.slice A10_0 t5.length c10_0, .slice A10_1 t6.length c10_1]] rfl (by (try simp only [List.map_toArray, List.map_cons, List.map_nil]); first | done | rfl | (simp only [List.length_drop, List.length_take]; rfl)) ?_) | go_at_call 27); (with_reducible refine (impl_WithoutOf.calls k _ _ t3 _ _ t4 _ _ t5 _ _ t6 t9 t10 t11 _ ?side1 ?side2 ?side3 ?side4 ?side5 ?side6 ?side7 ?side8 D5.out).mono ?_); (case side1 => repeat (first | exact (Kd.R_reads' F35.out).2.2 | (with_reducible refine Kd.C_alloc ?_ _) | (with_reducible refine Kd.C_drewN ?_ _) | (with_reducible refine Kd.C_drew ?_))); (case side2 => exact (Kd.R_reads' F35.out).2.1); (case side3 => repeat (first | exact (Kd.S_reads' F36.out).2.2 | (with_reducible refine Kd.C_alloc ?_ _) | (with_reducible refine Kd.C_drewN ?_ _) | (with_reducible refine Kd.C_drew ?_))); (case side4 => exact (Kd.S_reads' F36.out).2.1); (case side5 => repeat (first | exact (Kd.R_reads' g10_0.out).2.2 | (with_reducible refine Kd.C_alloc ?_ _) | (with_reducible refine Kd.C_drewN ?_ _) | (with_reducible refine Kd.C_drew ?_))); (case side6 => exact (Kd.R_reads' g10_0.out).2.1); (case side7 => repeat (first | exact (Kd.S_reads' g10_1.out).2.2 | (with_reducible refine Kd.C_alloc ?_ _) | (with_reducible refine Kd.C_drewN ?_ _) | (with_reducible refine Kd.C_drew ?_))); (case side8 => exact (Kd.S_reads' g10_1.out).2.1); rintro e w11 ⟨v11_0, v11_1, rfl, h0_, h1_, hb⟩; (try refine ⟨_, rfl, ?_⟩); have hp11 : (w10.heap.size + 1) ≤ _ := Nat.le_trans (by first | exact Nat.le_refl _ | (simp; done) | (simp; omega)) hb.size; have hq11 : (w10.heap.size + 1) ≤ w11.heap.size := hp11; have hn := below_step (w := w10) (by repeat (first | exact Below.refl _ _ | (with_reducible first | apply below_alloc | apply pw_below_drewN | apply below_drew1))) hb; have hs11 := below_size hn; have hq := Aside0.mk (below_step (by repeat first | exact HB.out | apply below_alloc | apply pw_below_drewN | apply below_drew1) hb); have g11_0 := Aside0.mk (Kd.R_mono (ok' := (fun k_ => ((w10.heap.size + 1) ≤ k_ ∧ k_ < w11.heap.size) ∧ (True))) (Kd.R_lower (Kd.R_bound h0_) (below_size (by repeat first | exact HB.out | apply below_alloc | apply pw_below_drewN | apply below_drew1))) (fun k_ hk_ => ⟨⟨Nat.le_trans (by first | exact Nat.le_refl _ | (simp; done) | (simp; omega) : (w10.heap.size + 1) ≤ _) hk_.2.1, hk_.2.2.1⟩, hk_.1⟩)); have g11_1 := Aside0.mk (Kd.S_mono (ok' := (fun k_ => ((w10.heap.size + 1) ≤ k_ ∧ k_ < w11.heap.size) ∧ (some k_ ≠ (v11_0 : Value).ownBlock))) (Kd.S_lower (Kd.S_bound h1_) (below_size (by repeat first | exact HB.out | apply below_alloc | apply pw_below_drewN | apply below_drew1))) (fun k_ hk_ => ⟨⟨Nat.le_trans (by first | exact Nat.le_refl _ | (simp; done) | (simp; omega) : (w10.heap.size + 1) ≤ _) hk_.2.1, hk_.2.2.1⟩, hk_.1⟩)); have F37 := Aside0.mk (Kd.R_below F33.out hn); have F38 := Aside0.mk (Kd.V_below F34.out hn); have F39 := Aside0.mk (Kd.R_below F35.out hn); have F40 := Aside0.mk (Kd.S_below F36.out hn); have F41 := Aside0.mk (Kd.R_below g10_0.out hn); have F42 := Aside0.mk (Kd.S_below g10_1.out hn); have NBK0 := Aside0.mk (blk_below (g := w.heap.size) (o := .cells #[.slice A0_0 l0_0.length c0_0, .slice A0_1 l0_1.length c0_1] 42 (0, 0)) (by (with_reducible repeat (first | refine blk_drewN ?_ _ | refine blk_drew ?_ | refine blk_alloc ?_ _)); exact BK0.out) hb); have NBK1 := Aside0.mk (blk_below (g := (w.heap.size + 1)) (o := .cells #[.slice A1_0 l1_0.length c1_0, .slice A1_1 l1_1.length c1_1] 42 (0, 0)) (by (with_reducible repeat (first | refine blk_drewN ?_ _ | refine blk_drew ?_ | refine blk_alloc ?_ _)); exact BK1.out) hb); have NBK2 := Aside0.mk (blk_below (g := gx8) (o := .cells #[.slice A6_0 t9.length c6_0, .slice A6_1 t10.length c6_1] 44 (0, 0)) (by (with_reducible repeat (first | refine blk_drewN ?_ _ | refine blk_drew ?_ | refine blk_alloc ?_ _)); exact BK2.out) hb); have NBK3 := Aside0.mk (blk_below (g := w9.heap.size) (o := .cells #[.slice A9_0 t3.length c9_0, .slice A9_1 t4.length c9_1] 44 (0, 0)) (by (with_reducible repeat (first | refine blk_drewN ?_ _ | refine blk_drew ?_ | refine blk_alloc ?_ _)); exact BK3.out) hb); have NBK4 := Aside0.mk (blk_below (g := w10.heap.size) (o := .cells #[.slice A10_0 t5.length c10_0, .slice A10_1 t6.length c10_1] 44 (0, 0)) (by first | exact heap_alloc_new _ _ | exact blk_drewN (heap_alloc_new _ _) _ | exact blk_drew (heap_alloc_new _ _) | (have h_ := heap_alloc_new w10 (.cells #[.slice A10_0 t5.length c10_0, .slice A10_1 t6.length c10_1] 44); simpa using h_)) hb); (try clear BK0); have BK0 := NBK0; clear NBK0; (try clear hlb0); have hlb0 : w.heap.size < w11.heap.size := blk_lt BK0.out; (try clear cb0_0); have cb0_0 : w11.cell? ⟨w.heap.size, 0, none⟩ = some (.slice A0_0 l0_0.length c0_0) := (blk_cell BK0.out 0).trans rfl; (try clear cb0_1); have cb0_1 : w11.cell? ⟨w.heap.size, 1, none⟩ = some (.slice A0_1 l0_1.length c0_1) := (blk_cell BK0.out 1).trans rfl; (try clear BK1); have BK1 := NBK1; clear NBK1; (try clear hlb1); have hlb1 : (w.heap.size + 1) < w11.heap.size := blk_lt BK1.out; (try clear cb1_0); have cb1_0 : w11.cell? ⟨(w.heap.size + 1), 0, none⟩ = some (.slice A1_0 l1_0.length c1_0) := (blk_cell BK1.out 0).trans rfl; (try clear cb1_1); have cb1_1 : w11.cell? ⟨(w.heap.size + 1), 1, none⟩ = some (.slice A1_1 l1_1.length c1_1) := (blk_cell BK1.out 1).trans rfl; (try clear BK2); have BK2 := NBK2; clear NBK2; (try clear hlb2); have hlb2 : gx8 < w11.heap.size := blk_lt BK2.out; (try clear cb2_0); have cb2_0 : w11.cell? ⟨gx8, 0, none⟩ = some (.slice A6_0 t9.length c6_0) := (blk_cell BK2.out 0).trans rfl; (try clear cb2_1); have cb2_1 : w11.cell? ⟨gx8, 1, none⟩ = some (.slice A6_1 t10.length c6_1) := (blk_cell BK2.out 1).trans rfl; (try clear BK3); have BK3 := NBK3; clear NBK3; (try clear hlb3); have hlb3 : w9.heap.size < w11.heap.size := blk_lt BK3.out; (try clear cb3_0); have cb3_0 : w11.cell? ⟨w9.heap.size, 0, none⟩ = some (.slice A9_0 t3.length c9_0) := (blk_cell BK3.out 0).trans rfl; (try clear cb3_1); have cb3_1 : w11.cell? ⟨w9.heap.size, 1, none⟩ = some (.slice A9_1 t4.length c9_1) := (blk_cell BK3.out 1).trans rfl; (try clear BK4); have BK4 := NBK4; clear NBK4; (try clear hlb4); have hlb4 : w10.heap.size < w11.heap.size := blk_lt BK4.out; (try clear cb4_0); have cb4_0 : w11.cell? ⟨w10.heap.size, 0, none⟩ = some (.slice A10_0 t5.length c10_0) := (blk_cell BK4.out 0).trans rfl; (try clear cb4_1); have cb4_1 : w11.cell? ⟨w10.heap.size, 1, none⟩ = some (.slice A10_1 t6.length c10_1) := (blk_cell BK4.out 1).trans rfl; clear HB F33 F34 F35 F36 g10_0 g10_1; have HB := hq; clear hq hn hb h0_ h1_; obtain ⟨A11_0, c11_0, eo⟩ := Kd.R_slice g11_0.out; subst eo; obtain ⟨A11_1, c11_1, eo⟩ := Kd.S_slice g11_1.out; subst eo) | ((first | ((with_reducible refine gate_callee (f := 23) rfl ?_); refine goesL_ (some 47) rfl rfl Try.func23 (by kernel_rfl) rfl #[.agg #[.slice A11_0 t9.length c11_0, .slice A11_1 t10.length c11_1], .agg #[.slice A6_0 t9.length c6_0, .slice A6_1 t10.length c6_1]] rfl (by (try simp only [List.map_toArray, List.map_cons, List.map_nil]); first | done | rfl | (simp only [List.length_drop, List.length_take]; rfl)) ?_) | go_at_call 23); (with_reducible refine (laws_eqRelation.calls k _ _ t9 _ _ t10 _ _ t9 _ _ t10 true _ ?side1 ?side2 ?side3 ?side4 ?side5 ?side6 ?side7 ?side8 D6.out).mono ?_); (case side1 => repeat (first | exact (Kd.R_reads' g11_0.out).2.2 | (with_reducible refine Kd.C_alloc ?_ _) | (with_reducible refine Kd.C_drewN ?_ _) | (with_reducible refine Kd.C_drew ?_))); (case side2 => exact (Kd.R_reads' g11_0.out).2.1); (case side3 => repeat (first | exact (Kd.S_reads' g11_1.out).2.2 | (with_reducible refine Kd.C_alloc ?_ _) | (with_reducible refine Kd.C_drewN ?_ _) | (with_reducible refine Kd.C_drew ?_))); (case side4 => exact (Kd.S_reads' g11_1.out).2.1); (case side5 => repeat (first | exact (Kd.R_reads' F37.out).2.2 | (with_reducible refine Kd.C_alloc ?_ _) | (with_reducible refine Kd.C_drewN ?_ _) | (with_reducible refine Kd.C_drew ?_))); (case side6 => exact (Kd.R_reads' F37.out).2.1); (case side7 => repeat (first | exact (Kd.V_reads' F38.out).2.2 | (with_reducible refine Kd.C_alloc ?_ _) | (with_reducible refine Kd.C_drewN ?_ _) | (with_reducible refine Kd.C_drew ?_))); (case side8 => exact (Kd.V_reads' F38.out).2.1); rintro e w12 ⟨rfl, hb⟩; (try refine ⟨_, rfl, ?_⟩); have hp12 : (w11.heap.size + 1) ≤ _ := Nat.le_trans (by first | exact Nat.le_refl _ | (simp; done) | (simp; omega)) hb.size; have hq12 : (w11.heap.size + 1) ≤ w12.heap.size := hp12; have hn := below_step (w := w11) (by repeat (first | exact Below.refl _ _ | (with_reducible first | apply below_alloc | apply pw_below_drewN | apply below_drew1))) hb; have hs12 := below_size hn; have hq := Aside0.mk (below_step (by repeat first | exact HB.out | apply below_alloc | apply pw_below_drewN | apply below_drew1) hb); have F43 := Aside0.mk (Kd.R_below F37.out hn); have F44 := Aside0.mk (Kd.V_below F38.out hn); have F45 := Aside0.mk (Kd.R_below F39.out hn); have F46 := Aside0.mk (Kd.S_below F40.out hn); have F47 := Aside0.mk (Kd.R_below F41.out hn); have F48 := Aside0.mk (Kd.S_below F42.out hn); have F49 := Aside0.mk (Kd.R_below g11_0.out hn); have F50 := Aside0.mk (Kd.S_below g11_1.out hn); have NBK0 := Aside0.mk (blk_below (g := w.heap.size) (o := .cells #[.slice A0_0 l0_0.length c0_0, .slice A0_1 l0_1.length c0_1] 42 (0, 0)) (by (with_reducible repeat (first | refine blk_drewN ?_ _ | refine blk_drew ?_ | refine blk_alloc ?_ _)); exact BK0.out) hb); have NBK1 := Aside0.mk (blk_below (g := (w.heap.size + 1)) (o := .cells #[.slice A1_0 l1_0.length c1_0, .slice A1_1 l1_1.length c1_1] 42 (0, 0)) (by (with_reducible repeat (first | refine blk_drewN ?_ _ | refine blk_drew ?_ | refine blk_alloc ?_ _)); exact BK1.out) hb); have NBK2 := Aside0.mk (blk_below (g := gx8) (o := .cells #[.slice A6_0 t9.length c6_0, .slice A6_1 t10.length c6_1] 44 (0, 0)) (by (with_reducible repeat (first | refine blk_drewN ?_ _ | refine blk_drew ?_ | refine blk_alloc ?_ _)); exact BK2.out) hb); have NBK3 := Aside0.mk (blk_below (g := w9.heap.size) (o := .cells #[.slice A9_0 t3.length c9_0, .slice A9_1 t4.length c9_1] 44 (0, 0)) (by (with_reducible repeat (first | refine blk_drewN ?_ _ | refine blk_drew ?_ | refine blk_alloc ?_ _)); exact BK3.out) hb); have NBK4 := Aside0.mk (blk_below (g := w10.heap.size) (o := .cells #[.slice A10_0 t5.length c10_0, .slice A10_1 t6.length c10_1] 44 (0, 0)) (by (with_reducible repeat (first | refine blk_drewN ?_ _ | refine blk_drew ?_ | refine blk_alloc ?_ _)); exact BK4.out) hb); have NBK5 := Aside0.mk (blk_below (g := w11.heap.size) (o := .cells #[.slice A11_0 t9.length c11_0, .slice A11_1 t10.length c11_1] 44 (0, 0)) (by first | exact heap_alloc_new _ _ | exact blk_drewN (heap_alloc_new _ _) _ | exact blk_drew (heap_alloc_new _ _) | (have h_ := heap_alloc_new w11 (.cells #[.slice A11_0 t9.length c11_0, .slice A11_1 t10.length c11_1] 44); simpa using h_)) hb); (try clear BK0); have BK0 := NBK0; clear NBK0; (try clear hlb0); have hlb0 : w.heap.size < w12.heap.size := blk_lt BK0.out; (try clear cb0_0); have cb0_0 : w12.cell? ⟨w.heap.size, 0, none⟩ = some (.slice A0_0 l0_0.length c0_0) := (blk_cell BK0.out 0).trans rfl; (try clear cb0_1); have cb0_1 : w12.cell? ⟨w.heap.size, 1, none⟩ = some (.slice A0_1 l0_1.length c0_1) := (blk_cell BK0.out 1).trans rfl; (try clear BK1); have BK1 := NBK1; clear NBK1; (try clear hlb1); have hlb1 : (w.heap.size + 1) < w12.heap.size := blk_lt BK1.out; (try clear cb1_0); have cb1_0 : w12.cell? ⟨(w.heap.size + 1), 0, none⟩ = some (.slice A1_0 l1_0.length c1_0) := (blk_cell BK1.out 0).trans rfl; (try clear cb1_1); have cb1_1 : w12.cell? ⟨(w.heap.size + 1), 1, none⟩ = some (.slice A1_1 l1_1.length c1_1) := (blk_cell BK1.out 1).trans rfl; (try clear BK2); have BK2 := NBK2; clear NBK2; (try clear hlb2); have hlb2 : gx8 < w12.heap.size := blk_lt BK2.out; (try clear cb2_0); have cb2_0 : w12.cell? ⟨gx8, 0, none⟩ = some (.slice A6_0 t9.length c6_0) := (blk_cell BK2.out 0).trans rfl; (try clear cb2_1); have cb2_1 : w12.cell? ⟨gx8, 1, none⟩ = some (.slice A6_1 t10.length c6_1) := (blk_cell BK2.out 1).trans rfl; (try clear BK3); have BK3 := NBK3; clear NBK3; (try clear hlb3); have hlb3 : w9.heap.size < w12.heap.size := blk_lt BK3.out; (try clear cb3_0); have cb3_0 : w12.cell? ⟨w9.heap.size, 0, none⟩ = some (.slice A9_0 t3.length c9_0) := (blk_cell BK3.out 0).trans rfl; (try clear cb3_1); have cb3_1 : w12.cell? ⟨w9.heap.size, 1, none⟩ = some (.slice A9_1 t4.length c9_1) := (blk_cell BK3.out 1).trans rfl; (try clear BK4); have BK4 := NBK4; clear NBK4; (try clear hlb4); have hlb4 : w10.heap.size < w12.heap.size := blk_lt BK4.out; (try clear cb4_0); have cb4_0 : w12.cell? ⟨w10.heap.size, 0, none⟩ = some (.slice A10_0 t5.length c10_0) := (blk_cell BK4.out 0).trans rfl; (try clear cb4_1); have cb4_1 : w12.cell? ⟨w10.heap.size, 1, none⟩ = some (.slice A10_1 t6.length c10_1) := (blk_cell BK4.out 1).trans rfl; (try clear BK5); have BK5 := NBK5; clear NBK5; (try clear hlb5); have hlb5 : w11.heap.size < w12.heap.size := blk_lt BK5.out; (try clear cb5_0); have cb5_0 : w12.cell? ⟨w11.heap.size, 0, none⟩ = some (.slice A11_0 t9.length c11_0) := (blk_cell BK5.out 0).trans rfl; (try clear cb5_1); have cb5_1 : w12.cell? ⟨w11.heap.size, 1, none⟩ = some (.slice A11_1 t10.length c11_1) := (blk_cell BK5.out 1).trans rfl; clear HB F37 F38 F39 F40 F41 F42 g11_0 g11_1; have HB := hq; clear hq hn hb ))
 go_region_held3 (fun w' => w'.cell? ⟨w.heap.size, 0, none⟩ = some (.slice A0_0 l0_0.length c0_0) ∧ w'.cell? ⟨w.heap.size, 1, none⟩ = some (.slice A0_1 l0_1.length c0_1) ∧ w'.cell? ⟨w9.heap.size, 0, none⟩ = some (.slice A9_0 t3.length c9_0) ∧ w'.cell? ⟨w9.heap.size, 1, none⟩ = some (.slice A9_1 t4.length c9_1)) (first | assumption | exact ⟨(blk_cell (by first | exact BK0.out | exact blk_drew BK0.out | exact blk_drewN BK0.out _ | exact blk_alloc BK0.out _) 0).trans rfl, (blk_cell (by first | exact BK0.out | exact blk_drew BK0.out | exact blk_drewN BK0.out _ | exact blk_alloc BK0.out _) 1).trans rfl, (blk_cell (by first | exact BK3.out | exact blk_drew BK3.out | exact blk_drewN BK3.out _ | exact blk_alloc BK3.out _) 0).trans rfl, (blk_cell (by first | exact BK3.out | exact blk_drew BK3.out | exact blk_drewN BK3.out _ | exact blk_alloc BK3.out _) 1).trans rfl⟩) (first | ((first | ((with_reducible refine gate_callee (f := 21) rfl ?_); refine goesL_ (some 56) rfl rfl Try.func21 (by kernel_rfl) rfl #[.agg #[.slice A0_0 l0_0.length c0_0, .slice A0_1 l0_1.length c0_1]] rfl (by (try simp only [List.map_toArray, List.map_cons, List.map_nil]); first | done | rfl | (simp only [List.length_drop, List.length_take]; rfl)) ?_) | go_at_call 21); (with_reducible refine (laws_toRelation.calls k _ _ l0_0 _ _ l0_1 t3 t4 _ ?side1 ?side2 ?side3 ?side4 D2.out).mono ?_); (case side1 => exact Kd.C_below HR0_0.out (by repeat first | exact HB.out | apply below_alloc | apply pw_below_drewN | apply below_drew1)); (case side2 => exact HC0_0.out); (case side3 => exact Kd.C_below HR0_1.out (by repeat first | exact HB.out | apply below_alloc | apply pw_below_drewN | apply below_drew1)); (case side4 => exact HC0_1.out); rintro e w13 ⟨v13_0, v13_1, rfl, h0_, h1_, hb⟩; (try refine ⟨_, rfl, ?_⟩); have hn := below_step (w := w12) (by repeat (first | exact Below.refl _ _ | (with_reducible first | apply below_alloc | apply pw_below_drewN | apply below_drew1))) hb; have hs13 := below_size hn; have hq := Aside0.mk (below_step (by repeat first | exact HB.out | apply below_alloc | apply pw_below_drewN | apply below_drew1) hb); have g13_0 := Aside0.mk (Kd.R_mono (ok' := (fun k_ => (w12.heap.size ≤ k_ ∧ k_ < w13.heap.size) ∧ (True))) (Kd.R_lower (Kd.R_bound h0_) (below_size (by repeat first | exact HB.out | apply below_alloc | apply pw_below_drewN | apply below_drew1))) (fun k_ hk_ => ⟨⟨Nat.le_trans (below_size (w := w12) (by repeat (first | exact Below.refl _ _ | (with_reducible first | apply below_alloc | apply pw_below_drewN | apply below_drew1)))) hk_.2.1, hk_.2.2.1⟩, hk_.1⟩)); have g13_1 := Aside0.mk (Kd.S_mono (ok' := (fun k_ => (w12.heap.size ≤ k_ ∧ k_ < w13.heap.size) ∧ (some k_ ≠ (v13_0 : Value).ownBlock))) (Kd.S_lower (Kd.S_bound h1_) (below_size (by repeat first | exact HB.out | apply below_alloc | apply pw_below_drewN | apply below_drew1))) (fun k_ hk_ => ⟨⟨Nat.le_trans (below_size (w := w12) (by repeat (first | exact Below.refl _ _ | (with_reducible first | apply below_alloc | apply pw_below_drewN | apply below_drew1)))) hk_.2.1, hk_.2.2.1⟩, hk_.1⟩)); have F51 := Aside0.mk (Kd.R_below F43.out hn); have F52 := Aside0.mk (Kd.V_below F44.out hn); have F53 := Aside0.mk (Kd.R_below F45.out hn); have F54 := Aside0.mk (Kd.S_below F46.out hn); have F55 := Aside0.mk (Kd.R_below F47.out hn); have F56 := Aside0.mk (Kd.S_below F48.out hn); have F57 := Aside0.mk (Kd.R_below F49.out hn); have F58 := Aside0.mk (Kd.S_below F50.out hn); have NBK0 := Aside0.mk (blk_below (g := w.heap.size) (o := .cells #[.slice A0_0 l0_0.length c0_0, .slice A0_1 l0_1.length c0_1] 42 (0, 0)) (by (with_reducible repeat (first | refine blk_drewN ?_ _ | refine blk_drew ?_ | refine blk_alloc ?_ _)); exact BK0.out) hb); have NBK1 := Aside0.mk (blk_below (g := (w.heap.size + 1)) (o := .cells #[.slice A1_0 l1_0.length c1_0, .slice A1_1 l1_1.length c1_1] 42 (0, 0)) (by (with_reducible repeat (first | refine blk_drewN ?_ _ | refine blk_drew ?_ | refine blk_alloc ?_ _)); exact BK1.out) hb); have NBK2 := Aside0.mk (blk_below (g := gx8) (o := .cells #[.slice A6_0 t9.length c6_0, .slice A6_1 t10.length c6_1] 44 (0, 0)) (by (with_reducible repeat (first | refine blk_drewN ?_ _ | refine blk_drew ?_ | refine blk_alloc ?_ _)); exact BK2.out) hb); have NBK3 := Aside0.mk (blk_below (g := w9.heap.size) (o := .cells #[.slice A9_0 t3.length c9_0, .slice A9_1 t4.length c9_1] 44 (0, 0)) (by (with_reducible repeat (first | refine blk_drewN ?_ _ | refine blk_drew ?_ | refine blk_alloc ?_ _)); exact BK3.out) hb); have NBK4 := Aside0.mk (blk_below (g := w10.heap.size) (o := .cells #[.slice A10_0 t5.length c10_0, .slice A10_1 t6.length c10_1] 44 (0, 0)) (by (with_reducible repeat (first | refine blk_drewN ?_ _ | refine blk_drew ?_ | refine blk_alloc ?_ _)); exact BK4.out) hb); have NBK5 := Aside0.mk (blk_below (g := w11.heap.size) (o := .cells #[.slice A11_0 t9.length c11_0, .slice A11_1 t10.length c11_1] 44 (0, 0)) (by (with_reducible repeat (first | refine blk_drewN ?_ _ | refine blk_drew ?_ | refine blk_alloc ?_ _)); exact BK5.out) hb); (try clear BK0); have BK0 := NBK0; clear NBK0; (try clear hlb0); have hlb0 : w.heap.size < w13.heap.size := blk_lt BK0.out; (try clear cb0_0); have cb0_0 : w13.cell? ⟨w.heap.size, 0, none⟩ = some (.slice A0_0 l0_0.length c0_0) := (blk_cell BK0.out 0).trans rfl; (try clear cb0_1); have cb0_1 : w13.cell? ⟨w.heap.size, 1, none⟩ = some (.slice A0_1 l0_1.length c0_1) := (blk_cell BK0.out 1).trans rfl; (try clear BK1); have BK1 := NBK1; clear NBK1; (try clear hlb1); have hlb1 : (w.heap.size + 1) < w13.heap.size := blk_lt BK1.out; (try clear cb1_0); have cb1_0 : w13.cell? ⟨(w.heap.size + 1), 0, none⟩ = some (.slice A1_0 l1_0.length c1_0) := (blk_cell BK1.out 0).trans rfl; (try clear cb1_1); have cb1_1 : w13.cell? ⟨(w.heap.size + 1), 1, none⟩ = some (.slice A1_1 l1_1.length c1_1) := (blk_cell BK1.out 1).trans rfl; (try clear BK2); have BK2 := NBK2; clear NBK2; (try clear hlb2); have hlb2 : gx8 < w13.heap.size := blk_lt BK2.out; (try clear cb2_0); have cb2_0 : w13.cell? ⟨gx8, 0, none⟩ = some (.slice A6_0 t9.length c6_0) := (blk_cell BK2.out 0).trans rfl; (try clear cb2_1); have cb2_1 : w13.cell? ⟨gx8, 1, none⟩ = some (.slice A6_1 t10.length c6_1) := (blk_cell BK2.out 1).trans rfl; (try clear BK3); have BK3 := NBK3; clear NBK3; (try clear hlb3); have hlb3 : w9.heap.size < w13.heap.size := blk_lt BK3.out; (try clear cb3_0); have cb3_0 : w13.cell? ⟨w9.heap.size, 0, none⟩ = some (.slice A9_0 t3.length c9_0) := (blk_cell BK3.out 0).trans rfl; (try clear cb3_1); have cb3_1 : w13.cell? ⟨w9.heap.size, 1, none⟩ = some (.slice A9_1 t4.length c9_1) := (blk_cell BK3.out 1).trans rfl; (try clear BK4); have BK4 := NBK4; clear NBK4; (try clear hlb4); have hlb4 : w10.heap.size < w13.heap.size := blk_lt BK4.out; (try clear cb4_0); have cb4_0 : w13.cell? ⟨w10.heap.size, 0, none⟩ = some (.slice A10_0 t5.length c10_0) := (blk_cell BK4.out 0).trans rfl; (try clear cb4_1); have cb4_1 : w13.cell? ⟨w10.heap.size, 1, none⟩ = some (.slice A10_1 t6.length c10_1) := (blk_cell BK4.out 1).trans rfl; (try clear BK5); have BK5 := NBK5; clear NBK5; (try clear hlb5); have hlb5 : w11.heap.size < w13.heap.size := blk_lt BK5.out; (try clear cb5_0); have cb5_0 : w13.cell? ⟨w11.heap.size, 0, none⟩ = some (.slice A11_0 t9.length c11_0) := (blk_cell BK5.out 0).trans rfl; (try clear cb5_1); have cb5_1 : w13.cell? ⟨w11.heap.size, 1, none⟩ = some (.slice A11_1 t10.length c11_1) := (blk_cell BK5.out 1).trans rfl; clear HB F43 F44 F45 F46 F47 F48 F49 F50; have HB := hq; clear hq hn hb h0_ h1_; obtain ⟨A13_0, c13_0, eo⟩ := Kd.R_slice g13_0.out; subst eo; obtain ⟨A13_1, c13_1, eo⟩ := Kd.S_slice g13_1.out; subst eo) | ((first | ((with_reducible refine gate_callee (f := 23) rfl ?_); refine goesL_ (some 57) rfl rfl Try.func23 (by kernel_rfl) rfl #[.agg #[.slice A9_0 t3.length c9_0, .slice A9_1 t4.length c9_1], .agg #[.slice A13_0 t3.length c13_0, .slice A13_1 t4.length c13_1]] rfl (by (try simp only [List.map_toArray, List.map_cons, List.map_nil]); first | done | rfl | (simp only [List.length_drop, List.length_take]; rfl)) ?_) | go_at_call 23); (with_reducible refine (laws_eqRelation.calls k _ _ t3 _ _ t4 _ _ t3 _ _ t4 true _ ?side1 ?side2 ?side3 ?side4 ?side5 ?side6 ?side7 ?side8 D7.out).mono ?_); (case side1 => repeat (first | exact (Kd.R_reads' F53.out).2.2 | (with_reducible refine Kd.C_alloc ?_ _) | (with_reducible refine Kd.C_drewN ?_ _) | (with_reducible refine Kd.C_drew ?_))); (case side2 => exact (Kd.R_reads' F53.out).2.1); (case side3 => repeat (first | exact (Kd.S_reads' F54.out).2.2 | (with_reducible refine Kd.C_alloc ?_ _) | (with_reducible refine Kd.C_drewN ?_ _) | (with_reducible refine Kd.C_drew ?_))); (case side4 => exact (Kd.S_reads' F54.out).2.1); (case side5 => repeat (first | exact (Kd.R_reads' g13_0.out).2.2 | (with_reducible refine Kd.C_alloc ?_ _) | (with_reducible refine Kd.C_drewN ?_ _) | (with_reducible refine Kd.C_drew ?_))); (case side6 => exact (Kd.R_reads' g13_0.out).2.1); (case side7 => repeat (first | exact (Kd.S_reads' g13_1.out).2.2 | (with_reducible refine Kd.C_alloc ?_ _) | (with_reducible refine Kd.C_drewN ?_ _) | (with_reducible refine Kd.C_drew ?_))); (case side8 => exact (Kd.S_reads' g13_1.out).2.1); rintro e w14 ⟨rfl, hb⟩; (try refine ⟨_, rfl, ?_⟩); have hn := below_step (w := w13) (by repeat (first | exact Below.refl _ _ | (with_reducible first | apply below_alloc | apply pw_below_drewN | apply below_drew1))) hb; have hs14 := below_size hn; have hq := Aside0.mk (below_step (by repeat first | exact HB.out | apply below_alloc | apply pw_below_drewN | apply below_drew1) hb); have F59 := Aside0.mk (Kd.R_below F51.out hn); have F60 := Aside0.mk (Kd.V_below F52.out hn); have F61 := Aside0.mk (Kd.R_below F53.out hn); have F62 := Aside0.mk (Kd.S_below F54.out hn); have F63 := Aside0.mk (Kd.R_below F55.out hn); have F64 := Aside0.mk (Kd.S_below F56.out hn); have F65 := Aside0.mk (Kd.R_below F57.out hn); have F66 := Aside0.mk (Kd.S_below F58.out hn); have F67 := Aside0.mk (Kd.R_below g13_0.out hn); have F68 := Aside0.mk (Kd.S_below g13_1.out hn); have NBK0 := Aside0.mk (blk_below (g := w.heap.size) (o := .cells #[.slice A0_0 l0_0.length c0_0, .slice A0_1 l0_1.length c0_1] 42 (0, 0)) (by (with_reducible repeat (first | refine blk_drewN ?_ _ | refine blk_drew ?_ | refine blk_alloc ?_ _)); exact BK0.out) hb); have NBK1 := Aside0.mk (blk_below (g := (w.heap.size + 1)) (o := .cells #[.slice A1_0 l1_0.length c1_0, .slice A1_1 l1_1.length c1_1] 42 (0, 0)) (by (with_reducible repeat (first | refine blk_drewN ?_ _ | refine blk_drew ?_ | refine blk_alloc ?_ _)); exact BK1.out) hb); have NBK2 := Aside0.mk (blk_below (g := gx8) (o := .cells #[.slice A6_0 t9.length c6_0, .slice A6_1 t10.length c6_1] 44 (0, 0)) (by (with_reducible repeat (first | refine blk_drewN ?_ _ | refine blk_drew ?_ | refine blk_alloc ?_ _)); exact BK2.out) hb); have NBK3 := Aside0.mk (blk_below (g := w9.heap.size) (o := .cells #[.slice A9_0 t3.length c9_0, .slice A9_1 t4.length c9_1] 44 (0, 0)) (by (with_reducible repeat (first | refine blk_drewN ?_ _ | refine blk_drew ?_ | refine blk_alloc ?_ _)); exact BK3.out) hb); have NBK4 := Aside0.mk (blk_below (g := w10.heap.size) (o := .cells #[.slice A10_0 t5.length c10_0, .slice A10_1 t6.length c10_1] 44 (0, 0)) (by (with_reducible repeat (first | refine blk_drewN ?_ _ | refine blk_drew ?_ | refine blk_alloc ?_ _)); exact BK4.out) hb); have NBK5 := Aside0.mk (blk_below (g := w11.heap.size) (o := .cells #[.slice A11_0 t9.length c11_0, .slice A11_1 t10.length c11_1] 44 (0, 0)) (by (with_reducible repeat (first | refine blk_drewN ?_ _ | refine blk_drew ?_ | refine blk_alloc ?_ _)); exact BK5.out) hb); (try clear BK0); have BK0 := NBK0; clear NBK0; (try clear hlb0); have hlb0 : w.heap.size < w14.heap.size := blk_lt BK0.out; (try clear cb0_0); have cb0_0 : w14.cell? ⟨w.heap.size, 0, none⟩ = some (.slice A0_0 l0_0.length c0_0) := (blk_cell BK0.out 0).trans rfl; (try clear cb0_1); have cb0_1 : w14.cell? ⟨w.heap.size, 1, none⟩ = some (.slice A0_1 l0_1.length c0_1) := (blk_cell BK0.out 1).trans rfl; (try clear BK1); have BK1 := NBK1; clear NBK1; (try clear hlb1); have hlb1 : (w.heap.size + 1) < w14.heap.size := blk_lt BK1.out; (try clear cb1_0); have cb1_0 : w14.cell? ⟨(w.heap.size + 1), 0, none⟩ = some (.slice A1_0 l1_0.length c1_0) := (blk_cell BK1.out 0).trans rfl; (try clear cb1_1); have cb1_1 : w14.cell? ⟨(w.heap.size + 1), 1, none⟩ = some (.slice A1_1 l1_1.length c1_1) := (blk_cell BK1.out 1).trans rfl; (try clear BK2); have BK2 := NBK2; clear NBK2; (try clear hlb2); have hlb2 : gx8 < w14.heap.size := blk_lt BK2.out; (try clear cb2_0); have cb2_0 : w14.cell? ⟨gx8, 0, none⟩ = some (.slice A6_0 t9.length c6_0) := (blk_cell BK2.out 0).trans rfl; (try clear cb2_1); have cb2_1 : w14.cell? ⟨gx8, 1, none⟩ = some (.slice A6_1 t10.length c6_1) := (blk_cell BK2.out 1).trans rfl; (try clear BK3); have BK3 := NBK3; clear NBK3; (try clear hlb3); have hlb3 : w9.heap.size < w14.heap.size := blk_lt BK3.out; (try clear cb3_0); have cb3_0 : w14.cell? ⟨w9.heap.size, 0, none⟩ = some (.slice A9_0 t3.length c9_0) := (blk_cell BK3.out 0).trans rfl; (try clear cb3_1); have cb3_1 : w14.cell? ⟨w9.heap.size, 1, none⟩ = some (.slice A9_1 t4.length c9_1) := (blk_cell BK3.out 1).trans rfl; (try clear BK4); have BK4 := NBK4; clear NBK4; (try clear hlb4); have hlb4 : w10.heap.size < w14.heap.size := blk_lt BK4.out; (try clear cb4_0); have cb4_0 : w14.cell? ⟨w10.heap.size, 0, none⟩ = some (.slice A10_0 t5.length c10_0) := (blk_cell BK4.out 0).trans rfl; (try clear cb4_1); have cb4_1 : w14.cell? ⟨w10.heap.size, 1, none⟩ = some (.slice A10_1 t6.length c10_1) := (blk_cell BK4.out 1).trans rfl; (try clear BK5); have BK5 := NBK5; clear NBK5; (try clear hlb5); have hlb5 : w11.heap.size < w14.heap.size := blk_lt BK5.out; (try clear cb5_0); have cb5_0 : w14.cell? ⟨w11.heap.size, 0, none⟩ = some (.slice A11_0 t9.length c11_0) := (blk_cell BK5.out 0).trans rfl; (try clear cb5_1); have cb5_1 : w14.cell? ⟨w11.heap.size, 1, none⟩ = some (.slice A11_1 t10.length c11_1) := (blk_cell BK5.out 1).trans rfl; clear HB F51 F52 F53 F54 F55 F56 F57 F58 g13_0 g13_1; have HB := hq; clear hq hn hb ))
 go_wp2
 go_region_held3 (fun w' => w'.cell? ⟨(w.heap.size + 1), 0, none⟩ = some (.slice A1_0 l1_0.length c1_0) ∧ w'.cell? ⟨(w.heap.size + 1), 1, none⟩ = some (.slice A1_1 l1_1.length c1_1) ∧ w'.cell? ⟨w10.heap.size, 0, none⟩ = some (.slice A10_0 t5.length c10_0) ∧ w'.cell? ⟨w10.heap.size, 1, none⟩ = some (.slice A10_1 t6.length c10_1)) (first | assumption | exact ⟨(blk_cell (by first | exact BK1.out | exact blk_drew BK1.out | exact blk_drewN BK1.out _ | exact blk_alloc BK1.out _) 0).trans rfl, (blk_cell (by first | exact BK1.out | exact blk_drew BK1.out | exact blk_drewN BK1.out _ | exact blk_alloc BK1.out _) 1).trans rfl, (blk_cell (by first | exact BK4.out | exact blk_drew BK4.out | exact blk_drewN BK4.out _ | exact blk_alloc BK4.out _) 0).trans rfl, (blk_cell (by first | exact BK4.out | exact blk_drew BK4.out | exact blk_drewN BK4.out _ | exact blk_alloc BK4.out _) 1).trans rfl⟩) (first | ((first | ((with_reducible refine gate_callee (f := 21) rfl ?_); refine goesL_ (some 61) rfl rfl Try.func21 (by kernel_rfl) rfl #[.agg #[.slice A1_0 l1_0.length c1_0, .slice A1_1 l1_1.length c1_1]] rfl (by (try simp only [List.map_toArray, List.map_cons, List.map_nil]); first | done | rfl | (simp only [List.length_drop, List.length_take]; rfl)) ?_) | go_at_call 21); (with_reducible refine (laws_toRelation.calls k _ _ l1_0 _ _ l1_1 t5 t6 _ ?side1 ?side2 ?side3 ?side4 D3.out).mono ?_); (case side1 => exact Kd.C_below HR1_0.out (by repeat first | exact HB.out | apply below_alloc | apply pw_below_drewN | apply below_drew1)); (case side2 => exact HC1_0.out); (case side3 => exact Kd.C_below HR1_1.out (by repeat first | exact HB.out | apply below_alloc | apply pw_below_drewN | apply below_drew1)); (case side4 => exact HC1_1.out); rintro e w15 ⟨v15_0, v15_1, rfl, h0_, h1_, hb⟩; (try refine ⟨_, rfl, ?_⟩); have hn := below_step (w := w14) (by repeat (first | exact Below.refl _ _ | (with_reducible first | apply below_alloc | apply pw_below_drewN | apply below_drew1))) hb; have hs15 := below_size hn; have hq := Aside0.mk (below_step (by repeat first | exact HB.out | apply below_alloc | apply pw_below_drewN | apply below_drew1) hb); have g15_0 := Aside0.mk (Kd.R_mono (ok' := (fun k_ => (w14.heap.size ≤ k_ ∧ k_ < w15.heap.size) ∧ (True))) (Kd.R_lower (Kd.R_bound h0_) (below_size (by repeat first | exact HB.out | apply below_alloc | apply pw_below_drewN | apply below_drew1))) (fun k_ hk_ => ⟨⟨Nat.le_trans (below_size (w := w14) (by repeat (first | exact Below.refl _ _ | (with_reducible first | apply below_alloc | apply pw_below_drewN | apply below_drew1)))) hk_.2.1, hk_.2.2.1⟩, hk_.1⟩)); have g15_1 := Aside0.mk (Kd.S_mono (ok' := (fun k_ => (w14.heap.size ≤ k_ ∧ k_ < w15.heap.size) ∧ (some k_ ≠ (v15_0 : Value).ownBlock))) (Kd.S_lower (Kd.S_bound h1_) (below_size (by repeat first | exact HB.out | apply below_alloc | apply pw_below_drewN | apply below_drew1))) (fun k_ hk_ => ⟨⟨Nat.le_trans (below_size (w := w14) (by repeat (first | exact Below.refl _ _ | (with_reducible first | apply below_alloc | apply pw_below_drewN | apply below_drew1)))) hk_.2.1, hk_.2.2.1⟩, hk_.1⟩)); have F69 := Aside0.mk (Kd.R_below F59.out hn); have F70 := Aside0.mk (Kd.V_below F60.out hn); have F71 := Aside0.mk (Kd.R_below F61.out hn); have F72 := Aside0.mk (Kd.S_below F62.out hn); have F73 := Aside0.mk (Kd.R_below F63.out hn); have F74 := Aside0.mk (Kd.S_below F64.out hn); have F75 := Aside0.mk (Kd.R_below F65.out hn); have F76 := Aside0.mk (Kd.S_below F66.out hn); have NBK0 := Aside0.mk (blk_below (g := w.heap.size) (o := .cells #[.slice A0_0 l0_0.length c0_0, .slice A0_1 l0_1.length c0_1] 42 (0, 0)) (by (with_reducible repeat (first | refine blk_drewN ?_ _ | refine blk_drew ?_ | refine blk_alloc ?_ _)); exact BK0.out) hb); have NBK1 := Aside0.mk (blk_below (g := (w.heap.size + 1)) (o := .cells #[.slice A1_0 l1_0.length c1_0, .slice A1_1 l1_1.length c1_1] 42 (0, 0)) (by (with_reducible repeat (first | refine blk_drewN ?_ _ | refine blk_drew ?_ | refine blk_alloc ?_ _)); exact BK1.out) hb); have NBK2 := Aside0.mk (blk_below (g := gx8) (o := .cells #[.slice A6_0 t9.length c6_0, .slice A6_1 t10.length c6_1] 44 (0, 0)) (by (with_reducible repeat (first | refine blk_drewN ?_ _ | refine blk_drew ?_ | refine blk_alloc ?_ _)); exact BK2.out) hb); have NBK3 := Aside0.mk (blk_below (g := w9.heap.size) (o := .cells #[.slice A9_0 t3.length c9_0, .slice A9_1 t4.length c9_1] 44 (0, 0)) (by (with_reducible repeat (first | refine blk_drewN ?_ _ | refine blk_drew ?_ | refine blk_alloc ?_ _)); exact BK3.out) hb); have NBK4 := Aside0.mk (blk_below (g := w10.heap.size) (o := .cells #[.slice A10_0 t5.length c10_0, .slice A10_1 t6.length c10_1] 44 (0, 0)) (by (with_reducible repeat (first | refine blk_drewN ?_ _ | refine blk_drew ?_ | refine blk_alloc ?_ _)); exact BK4.out) hb); have NBK5 := Aside0.mk (blk_below (g := w11.heap.size) (o := .cells #[.slice A11_0 t9.length c11_0, .slice A11_1 t10.length c11_1] 44 (0, 0)) (by (with_reducible repeat (first | refine blk_drewN ?_ _ | refine blk_drew ?_ | refine blk_alloc ?_ _)); exact BK5.out) hb); (try clear BK0); have BK0 := NBK0; clear NBK0; (try clear hlb0); have hlb0 : w.heap.size < w15.heap.size := blk_lt BK0.out; (try clear cb0_0); have cb0_0 : w15.cell? ⟨w.heap.size, 0, none⟩ = some (.slice A0_0 l0_0.length c0_0) := (blk_cell BK0.out 0).trans rfl; (try clear cb0_1); have cb0_1 : w15.cell? ⟨w.heap.size, 1, none⟩ = some (.slice A0_1 l0_1.length c0_1) := (blk_cell BK0.out 1).trans rfl; (try clear BK1); have BK1 := NBK1; clear NBK1; (try clear hlb1); have hlb1 : (w.heap.size + 1) < w15.heap.size := blk_lt BK1.out; (try clear cb1_0); have cb1_0 : w15.cell? ⟨(w.heap.size + 1), 0, none⟩ = some (.slice A1_0 l1_0.length c1_0) := (blk_cell BK1.out 0).trans rfl; (try clear cb1_1); have cb1_1 : w15.cell? ⟨(w.heap.size + 1), 1, none⟩ = some (.slice A1_1 l1_1.length c1_1) := (blk_cell BK1.out 1).trans rfl; (try clear BK2); have BK2 := NBK2; clear NBK2; (try clear hlb2); have hlb2 : gx8 < w15.heap.size := blk_lt BK2.out; (try clear cb2_0); have cb2_0 : w15.cell? ⟨gx8, 0, none⟩ = some (.slice A6_0 t9.length c6_0) := (blk_cell BK2.out 0).trans rfl; (try clear cb2_1); have cb2_1 : w15.cell? ⟨gx8, 1, none⟩ = some (.slice A6_1 t10.length c6_1) := (blk_cell BK2.out 1).trans rfl; (try clear BK3); have BK3 := NBK3; clear NBK3; (try clear hlb3); have hlb3 : w9.heap.size < w15.heap.size := blk_lt BK3.out; (try clear cb3_0); have cb3_0 : w15.cell? ⟨w9.heap.size, 0, none⟩ = some (.slice A9_0 t3.length c9_0) := (blk_cell BK3.out 0).trans rfl; (try clear cb3_1); have cb3_1 : w15.cell? ⟨w9.heap.size, 1, none⟩ = some (.slice A9_1 t4.length c9_1) := (blk_cell BK3.out 1).trans rfl; (try clear BK4); have BK4 := NBK4; clear NBK4; (try clear hlb4); have hlb4 : w10.heap.size < w15.heap.size := blk_lt BK4.out; (try clear cb4_0); have cb4_0 : w15.cell? ⟨w10.heap.size, 0, none⟩ = some (.slice A10_0 t5.length c10_0) := (blk_cell BK4.out 0).trans rfl; (try clear cb4_1); have cb4_1 : w15.cell? ⟨w10.heap.size, 1, none⟩ = some (.slice A10_1 t6.length c10_1) := (blk_cell BK4.out 1).trans rfl; (try clear BK5); have BK5 := NBK5; clear NBK5; (try clear hlb5); have hlb5 : w11.heap.size < w15.heap.size := blk_lt BK5.out; (try clear cb5_0); have cb5_0 : w15.cell? ⟨w11.heap.size, 0, none⟩ = some (.slice A11_0 t9.length c11_0) := (blk_cell BK5.out 0).trans rfl; (try clear cb5_1); have cb5_1 : w15.cell? ⟨w11.heap.size, 1, none⟩ = some (.slice A11_1 t10.length c11_1) := (blk_cell BK5.out 1).trans rfl; clear HB F59 F60 F61 F62 F63 F64 F65 F66; have HB := hq; clear hq hn hb h0_ h1_; obtain ⟨A15_0, c15_0, eo⟩ := Kd.R_slice g15_0.out; subst eo; obtain ⟨A15_1, c15_1, eo⟩ := Kd.S_slice g15_1.out; subst eo) | ((first | ((with_reducible refine gate_callee (f := 23) rfl ?_); refine goesL_ (some 62) rfl rfl Try.func23 (by kernel_rfl) rfl #[.agg #[.slice A10_0 t5.length c10_0, .slice A10_1 t6.length c10_1], .agg #[.slice A15_0 t5.length c15_0, .slice A15_1 t6.length c15_1]] rfl (by (try simp only [List.map_toArray, List.map_cons, List.map_nil]); first | done | rfl | (simp only [List.length_drop, List.length_take]; rfl)) ?_) | go_at_call 23); (with_reducible refine (laws_eqRelation.calls k _ _ t5 _ _ t6 _ _ t5 _ _ t6 true _ ?side1 ?side2 ?side3 ?side4 ?side5 ?side6 ?side7 ?side8 D8.out).mono ?_); (case side1 => repeat (first | exact (Kd.R_reads' F73.out).2.2 | (with_reducible refine Kd.C_alloc ?_ _) | (with_reducible refine Kd.C_drewN ?_ _) | (with_reducible refine Kd.C_drew ?_))); (case side2 => exact (Kd.R_reads' F73.out).2.1); (case side3 => repeat (first | exact (Kd.S_reads' F74.out).2.2 | (with_reducible refine Kd.C_alloc ?_ _) | (with_reducible refine Kd.C_drewN ?_ _) | (with_reducible refine Kd.C_drew ?_))); (case side4 => exact (Kd.S_reads' F74.out).2.1); (case side5 => repeat (first | exact (Kd.R_reads' g15_0.out).2.2 | (with_reducible refine Kd.C_alloc ?_ _) | (with_reducible refine Kd.C_drewN ?_ _) | (with_reducible refine Kd.C_drew ?_))); (case side6 => exact (Kd.R_reads' g15_0.out).2.1); (case side7 => repeat (first | exact (Kd.S_reads' g15_1.out).2.2 | (with_reducible refine Kd.C_alloc ?_ _) | (with_reducible refine Kd.C_drewN ?_ _) | (with_reducible refine Kd.C_drew ?_))); (case side8 => exact (Kd.S_reads' g15_1.out).2.1); rintro e w16 ⟨rfl, hb⟩; (try refine ⟨_, rfl, ?_⟩); have hn := below_step (w := w15) (by repeat (first | exact Below.refl _ _ | (with_reducible first | apply below_alloc | apply pw_below_drewN | apply below_drew1))) hb; have hs16 := below_size hn; have hq := Aside0.mk (below_step (by repeat first | exact HB.out | apply below_alloc | apply pw_below_drewN | apply below_drew1) hb); have F77 := Aside0.mk (Kd.R_below F69.out hn); have F78 := Aside0.mk (Kd.V_below F70.out hn); have F79 := Aside0.mk (Kd.R_below F71.out hn); have F80 := Aside0.mk (Kd.S_below F72.out hn); have F81 := Aside0.mk (Kd.R_below F73.out hn); have F82 := Aside0.mk (Kd.S_below F74.out hn); have F83 := Aside0.mk (Kd.R_below F75.out hn); have F84 := Aside0.mk (Kd.S_below F76.out hn); have F85 := Aside0.mk (Kd.R_below g15_0.out hn); have F86 := Aside0.mk (Kd.S_below g15_1.out hn); have NBK0 := Aside0.mk (blk_below (g := w.heap.size) (o := .cells #[.slice A0_0 l0_0.length c0_0, .slice A0_1 l0_1.length c0_1] 42 (0, 0)) (by (with_reducible repeat (first | refine blk_drewN ?_ _ | refine blk_drew ?_ | refine blk_alloc ?_ _)); exact BK0.out) hb); have NBK1 := Aside0.mk (blk_below (g := (w.heap.size + 1)) (o := .cells #[.slice A1_0 l1_0.length c1_0, .slice A1_1 l1_1.length c1_1] 42 (0, 0)) (by (with_reducible repeat (first | refine blk_drewN ?_ _ | refine blk_drew ?_ | refine blk_alloc ?_ _)); exact BK1.out) hb); have NBK2 := Aside0.mk (blk_below (g := gx8) (o := .cells #[.slice A6_0 t9.length c6_0, .slice A6_1 t10.length c6_1] 44 (0, 0)) (by (with_reducible repeat (first | refine blk_drewN ?_ _ | refine blk_drew ?_ | refine blk_alloc ?_ _)); exact BK2.out) hb); have NBK3 := Aside0.mk (blk_below (g := w9.heap.size) (o := .cells #[.slice A9_0 t3.length c9_0, .slice A9_1 t4.length c9_1] 44 (0, 0)) (by (with_reducible repeat (first | refine blk_drewN ?_ _ | refine blk_drew ?_ | refine blk_alloc ?_ _)); exact BK3.out) hb); have NBK4 := Aside0.mk (blk_below (g := w10.heap.size) (o := .cells #[.slice A10_0 t5.length c10_0, .slice A10_1 t6.length c10_1] 44 (0, 0)) (by (with_reducible repeat (first | refine blk_drewN ?_ _ | refine blk_drew ?_ | refine blk_alloc ?_ _)); exact BK4.out) hb); have NBK5 := Aside0.mk (blk_below (g := w11.heap.size) (o := .cells #[.slice A11_0 t9.length c11_0, .slice A11_1 t10.length c11_1] 44 (0, 0)) (by (with_reducible repeat (first | refine blk_drewN ?_ _ | refine blk_drew ?_ | refine blk_alloc ?_ _)); exact BK5.out) hb); (try clear BK0); have BK0 := NBK0; clear NBK0; (try clear hlb0); have hlb0 : w.heap.size < w16.heap.size := blk_lt BK0.out; (try clear cb0_0); have cb0_0 : w16.cell? ⟨w.heap.size, 0, none⟩ = some (.slice A0_0 l0_0.length c0_0) := (blk_cell BK0.out 0).trans rfl; (try clear cb0_1); have cb0_1 : w16.cell? ⟨w.heap.size, 1, none⟩ = some (.slice A0_1 l0_1.length c0_1) := (blk_cell BK0.out 1).trans rfl; (try clear BK1); have BK1 := NBK1; clear NBK1; (try clear hlb1); have hlb1 : (w.heap.size + 1) < w16.heap.size := blk_lt BK1.out; (try clear cb1_0); have cb1_0 : w16.cell? ⟨(w.heap.size + 1), 0, none⟩ = some (.slice A1_0 l1_0.length c1_0) := (blk_cell BK1.out 0).trans rfl; (try clear cb1_1); have cb1_1 : w16.cell? ⟨(w.heap.size + 1), 1, none⟩ = some (.slice A1_1 l1_1.length c1_1) := (blk_cell BK1.out 1).trans rfl; (try clear BK2); have BK2 := NBK2; clear NBK2; (try clear hlb2); have hlb2 : gx8 < w16.heap.size := blk_lt BK2.out; (try clear cb2_0); have cb2_0 : w16.cell? ⟨gx8, 0, none⟩ = some (.slice A6_0 t9.length c6_0) := (blk_cell BK2.out 0).trans rfl; (try clear cb2_1); have cb2_1 : w16.cell? ⟨gx8, 1, none⟩ = some (.slice A6_1 t10.length c6_1) := (blk_cell BK2.out 1).trans rfl; (try clear BK3); have BK3 := NBK3; clear NBK3; (try clear hlb3); have hlb3 : w9.heap.size < w16.heap.size := blk_lt BK3.out; (try clear cb3_0); have cb3_0 : w16.cell? ⟨w9.heap.size, 0, none⟩ = some (.slice A9_0 t3.length c9_0) := (blk_cell BK3.out 0).trans rfl; (try clear cb3_1); have cb3_1 : w16.cell? ⟨w9.heap.size, 1, none⟩ = some (.slice A9_1 t4.length c9_1) := (blk_cell BK3.out 1).trans rfl; (try clear BK4); have BK4 := NBK4; clear NBK4; (try clear hlb4); have hlb4 : w10.heap.size < w16.heap.size := blk_lt BK4.out; (try clear cb4_0); have cb4_0 : w16.cell? ⟨w10.heap.size, 0, none⟩ = some (.slice A10_0 t5.length c10_0) := (blk_cell BK4.out 0).trans rfl; (try clear cb4_1); have cb4_1 : w16.cell? ⟨w10.heap.size, 1, none⟩ = some (.slice A10_1 t6.length c10_1) := (blk_cell BK4.out 1).trans rfl; (try clear BK5); have BK5 := NBK5; clear NBK5; (try clear hlb5); have hlb5 : w11.heap.size < w16.heap.size := blk_lt BK5.out; (try clear cb5_0); have cb5_0 : w16.cell? ⟨w11.heap.size, 0, none⟩ = some (.slice A11_0 t9.length c11_0) := (blk_cell BK5.out 0).trans rfl; (try clear cb5_1); have cb5_1 : w16.cell? ⟨w11.heap.size, 1, none⟩ = some (.slice A11_1 t10.length c11_1) := (blk_cell BK5.out 1).trans rfl; clear HB F69 F70 F71 F72 F73 F74 F75 F76 g15_0 g15_1; have HB := hq; clear hq hn hb ))
 go_wp2_with (first | ((first | ((with_reducible refine gate_callee (f := 24) rfl ?_); refine goesL_ (some 66) rfl rfl Try.func24 (by kernel_rfl) rfl #[.agg #[.slice A9_0 t3.length c9_0, .slice A9_1 t4.length c9_1], .int .i64 1] rfl (by (try simp only [List.map_toArray, List.map_cons, List.map_nil]); first | done | rfl | (simp only [List.length_drop, List.length_take]; rfl)) ?_) | go_at_call 24); refine (laws_markRelation.calls k (fun k_ => some k_ = (.slice A9_0 t3.length c9_0 : Value).ownBlock) (.slice A9_0 t3.length c9_0) t3 (fun k_ => (w8.heap.size ≤ k_ ∧ k_ < w9.heap.size) ∧ (some k_ ≠ (.slice A9_0 t3.length c9_0 : Value).ownBlock)) (.slice A9_1 t4.length c9_1) t4 1 t87 z88 z89 w _ ?side1 ?side2 ?side3 ?side4 ?side5 D9.out).mono ?_; (case side1 => repeat (first | (with_reducible first | exact HB.out | apply below_alloc | apply pw_below_drewN | apply below_drew1) | exact HB.out)); (case side2 => exact Kd.R_tight rfl (Kd.R_below F79.out (by repeat (first | exact Below.refl _ _ | (with_reducible first | apply below_alloc | apply pw_below_drewN | apply below_drew1))))); (case side3 => exact fun k_ e_ e2_ => by first | exact (F79.out.1 k_ e_.symm).2 e2_ | exact (F80.out.1 k_ e2_.symm).2 e_ | exact (F79.out.1 k_ e_.symm).2.1 e2_ | exact (F79.out.1 k_ e_.symm).2.2 e2_ | exact e2_.2 e_ | exact e_.2 e2_); (case side4 => exact (Kd.S_below F80.out (by repeat (first | exact Below.refl _ _ | (with_reducible first | apply below_alloc | apply pw_below_drewN | apply below_drew1))))); (case side5 => exact fun k_ e_ e2_ => by first | exact (F80.out.1 k_ e_.symm).2 e2_ | exact (F79.out.1 k_ e2_.symm).2 e_ | exact (F80.out.1 k_ e_.symm).2.1 e2_ | exact (F80.out.1 k_ e_.symm).2.2 e2_ | exact e2_.2 e_ | exact e_.2 e2_); rintro e w17 ⟨rfl, hR0, hR1, hB2, hK2⟩; (try refine ⟨_, rfl, ?_⟩); have hs17 : w16.heap.size ≤ w17.heap.size := Nat.le_trans (below_size (by repeat (first | exact Below.refl _ _ | (with_reducible first | apply below_alloc | apply pw_below_drewN | apply below_drew1)))) hK2.1; have F90 := Aside0.mk (Kd.R_mono (Kd.R_tight rfl hR0) (fun k_ hk_ => F79.out.1 k_ hk_.symm)); have F91 := Aside0.mk (hR1); have F92 := Aside0.mk (Kd.R_kept (Kd.R_below F77.out (by repeat (first | exact Below.refl _ _ | (with_reducible first | apply below_alloc | apply pw_below_drewN | apply below_drew1)))) hK2 (fun k_ hk_ hp_ => by (rcases hp_ with hp_ | hp_ <;> first | (have z_ := (F79.out.1 k_ hp_.symm).1; have z2_ := hk_.1; omega) | (have z_ := hp_.1; have z2_ := hk_.1; omega)))); have F93 := Aside0.mk (Kd.V_kept (Kd.V_below F78.out (by repeat (first | exact Below.refl _ _ | (with_reducible first | apply below_alloc | apply pw_below_drewN | apply below_drew1)))) hK2 (fun k_ hk_ hp_ => by (rcases hp_ with hp_ | hp_ <;> first | (have z_ := (F79.out.1 k_ hp_.symm).1; have z2_ := hk_.1; omega) | (have z_ := hp_.1; have z2_ := hk_.1; omega)))); have F94 := Aside0.mk (Kd.R_kept (Kd.R_below F81.out (by repeat (first | exact Below.refl _ _ | (with_reducible first | apply below_alloc | apply pw_below_drewN | apply below_drew1)))) hK2 (fun k_ hk_ hp_ => by (rcases hp_ with hp_ | hp_ <;> first | (have z_ := (F79.out.1 k_ hp_.symm).1; have z2_ := hk_.1; omega) | (have z_ := hp_.1; have z2_ := hk_.1; omega)))); have F95 := Aside0.mk (Kd.S_kept (Kd.S_below F82.out (by repeat (first | exact Below.refl _ _ | (with_reducible first | apply below_alloc | apply pw_below_drewN | apply below_drew1)))) hK2 (fun k_ hk_ hp_ => by (rcases hp_ with hp_ | hp_ <;> first | (have z_ := (F79.out.1 k_ hp_.symm).1; have z2_ := hk_.1; omega) | (have z_ := hp_.1; have z2_ := hk_.1; omega)))); have F96 := Aside0.mk (Kd.R_kept (Kd.R_below F83.out (by repeat (first | exact Below.refl _ _ | (with_reducible first | apply below_alloc | apply pw_below_drewN | apply below_drew1)))) hK2 (fun k_ hk_ hp_ => by (rcases hp_ with hp_ | hp_ <;> first | (have z_ := (F79.out.1 k_ hp_.symm).1; have z2_ := hk_.1; omega) | (have z_ := hp_.1; have z2_ := hk_.1; omega)))); have F97 := Aside0.mk (Kd.S_kept (Kd.S_below F84.out (by repeat (first | exact Below.refl _ _ | (with_reducible first | apply below_alloc | apply pw_below_drewN | apply below_drew1)))) hK2 (fun k_ hk_ hp_ => by (rcases hp_ with hp_ | hp_ <;> first | (have z_ := (F79.out.1 k_ hp_.symm).1; have z2_ := hk_.1; omega) | (have z_ := hp_.1; have z2_ := hk_.1; omega)))); have NBK0 := Aside0.mk (blk_kept (g := w.heap.size) (o := .cells #[.slice A0_0 l0_0.length c0_0, .slice A0_1 l0_1.length c0_1] 42 (0, 0)) (by (with_reducible repeat (first | refine blk_drewN ?_ _ | refine blk_drew ?_ | refine blk_alloc ?_ _)); exact BK0.out) hK2 (fun hp_ => by (rcases hp_ with hp_ | hp_ <;> first | (have z_ := (F79.out.1 _ hp_.symm).1; omega) | (have z_ := hp_.1; omega)))); have NBK1 := Aside0.mk (blk_kept (g := (w.heap.size + 1)) (o := .cells #[.slice A1_0 l1_0.length c1_0, .slice A1_1 l1_1.length c1_1] 42 (0, 0)) (by (with_reducible repeat (first | refine blk_drewN ?_ _ | refine blk_drew ?_ | refine blk_alloc ?_ _)); exact BK1.out) hK2 (fun hp_ => by (rcases hp_ with hp_ | hp_ <;> first | (have z_ := (F79.out.1 _ hp_.symm).1; omega) | (have z_ := hp_.1; omega)))); have NBK2 := Aside0.mk (blk_kept (g := gx8) (o := .cells #[.slice A6_0 t9.length c6_0, .slice A6_1 t10.length c6_1] 44 (0, 0)) (by (with_reducible repeat (first | refine blk_drewN ?_ _ | refine blk_drew ?_ | refine blk_alloc ?_ _)); exact BK2.out) hK2 (fun hp_ => by (rcases hp_ with hp_ | hp_ <;> first | (have z_ := (F79.out.1 _ hp_.symm).1; omega) | (have z_ := hp_.1; omega)))); have NBK3 := Aside0.mk (blk_kept (g := w9.heap.size) (o := .cells #[.slice A9_0 t3.length c9_0, .slice A9_1 t4.length c9_1] 44 (0, 0)) (by (with_reducible repeat (first | refine blk_drewN ?_ _ | refine blk_drew ?_ | refine blk_alloc ?_ _)); exact BK3.out) hK2 (fun hp_ => by (rcases hp_ with hp_ | hp_ <;> first | (have z_ := (F79.out.1 _ hp_.symm).1; omega) | (have z_ := hp_.1; omega)))); have NBK4 := Aside0.mk (blk_kept (g := w10.heap.size) (o := .cells #[.slice A10_0 t5.length c10_0, .slice A10_1 t6.length c10_1] 44 (0, 0)) (by (with_reducible repeat (first | refine blk_drewN ?_ _ | refine blk_drew ?_ | refine blk_alloc ?_ _)); exact BK4.out) hK2 (fun hp_ => by (rcases hp_ with hp_ | hp_ <;> first | (have z_ := (F79.out.1 _ hp_.symm).1; omega) | (have z_ := hp_.1; omega)))); have NBK5 := Aside0.mk (blk_kept (g := w11.heap.size) (o := .cells #[.slice A11_0 t9.length c11_0, .slice A11_1 t10.length c11_1] 44 (0, 0)) (by (with_reducible repeat (first | refine blk_drewN ?_ _ | refine blk_drew ?_ | refine blk_alloc ?_ _)); exact BK5.out) hK2 (fun hp_ => by (rcases hp_ with hp_ | hp_ <;> first | (have z_ := (F79.out.1 _ hp_.symm).1; omega) | (have z_ := hp_.1; omega)))); (try clear BK0); have BK0 := NBK0; clear NBK0; (try clear hlb0); have hlb0 : w.heap.size < w17.heap.size := blk_lt BK0.out; (try clear cb0_0); have cb0_0 : w17.cell? ⟨w.heap.size, 0, none⟩ = some (.slice A0_0 l0_0.length c0_0) := (blk_cell BK0.out 0).trans rfl; (try clear cb0_1); have cb0_1 : w17.cell? ⟨w.heap.size, 1, none⟩ = some (.slice A0_1 l0_1.length c0_1) := (blk_cell BK0.out 1).trans rfl; (try clear BK1); have BK1 := NBK1; clear NBK1; (try clear hlb1); have hlb1 : (w.heap.size + 1) < w17.heap.size := blk_lt BK1.out; (try clear cb1_0); have cb1_0 : w17.cell? ⟨(w.heap.size + 1), 0, none⟩ = some (.slice A1_0 l1_0.length c1_0) := (blk_cell BK1.out 0).trans rfl; (try clear cb1_1); have cb1_1 : w17.cell? ⟨(w.heap.size + 1), 1, none⟩ = some (.slice A1_1 l1_1.length c1_1) := (blk_cell BK1.out 1).trans rfl; (try clear BK2); have BK2 := NBK2; clear NBK2; (try clear hlb2); have hlb2 : gx8 < w17.heap.size := blk_lt BK2.out; (try clear cb2_0); have cb2_0 : w17.cell? ⟨gx8, 0, none⟩ = some (.slice A6_0 t9.length c6_0) := (blk_cell BK2.out 0).trans rfl; (try clear cb2_1); have cb2_1 : w17.cell? ⟨gx8, 1, none⟩ = some (.slice A6_1 t10.length c6_1) := (blk_cell BK2.out 1).trans rfl; (try clear BK3); have BK3 := NBK3; clear NBK3; (try clear hlb3); have hlb3 : w9.heap.size < w17.heap.size := blk_lt BK3.out; (try clear cb3_0); have cb3_0 : w17.cell? ⟨w9.heap.size, 0, none⟩ = some (.slice A9_0 t3.length c9_0) := (blk_cell BK3.out 0).trans rfl; (try clear cb3_1); have cb3_1 : w17.cell? ⟨w9.heap.size, 1, none⟩ = some (.slice A9_1 t4.length c9_1) := (blk_cell BK3.out 1).trans rfl; (try clear BK4); have BK4 := NBK4; clear NBK4; (try clear hlb4); have hlb4 : w10.heap.size < w17.heap.size := blk_lt BK4.out; (try clear cb4_0); have cb4_0 : w17.cell? ⟨w10.heap.size, 0, none⟩ = some (.slice A10_0 t5.length c10_0) := (blk_cell BK4.out 0).trans rfl; (try clear cb4_1); have cb4_1 : w17.cell? ⟨w10.heap.size, 1, none⟩ = some (.slice A10_1 t6.length c10_1) := (blk_cell BK4.out 1).trans rfl; (try clear BK5); have BK5 := NBK5; clear NBK5; (try clear hlb5); have hlb5 : w11.heap.size < w17.heap.size := blk_lt BK5.out; (try clear cb5_0); have cb5_0 : w17.cell? ⟨w11.heap.size, 0, none⟩ = some (.slice A11_0 t9.length c11_0) := (blk_cell BK5.out 0).trans rfl; (try clear cb5_1); have cb5_1 : w17.cell? ⟨w11.heap.size, 1, none⟩ = some (.slice A11_1 t10.length c11_1) := (blk_cell BK5.out 1).trans rfl; clear HB F77 F78 F79 F80 F81 F82 F83 F84; have HB := Aside0.mk hB2; clear hB2 hK2 hR0 hR1) | ((first | ((with_reducible refine gate_callee (f := 24) rfl ?_); refine goesL_ (some 69) rfl rfl Try.func24 (by kernel_rfl) rfl #[.agg #[.slice A10_0 t5.length c10_0, .slice A10_1 t6.length c10_1], .int .i64 t87] rfl (by (try simp only [List.map_toArray, List.map_cons, List.map_nil]); first | done | rfl | (simp only [List.length_drop, List.length_take]; rfl)) ?_) | go_at_call 24); refine (laws_markRelation.calls k (fun k_ => some k_ = (.slice A10_0 t5.length c10_0 : Value).ownBlock) (.slice A10_0 t5.length c10_0) t5 (fun k_ => ((w9.heap.size + 1) ≤ k_ ∧ k_ < w10.heap.size) ∧ (some k_ ≠ (.slice A10_0 t5.length c10_0 : Value).ownBlock)) (.slice A10_1 t6.length c10_1) t6 t87 t98 z99 z100 w _ ?side1 ?side2 ?side3 ?side4 ?side5 D10.out).mono ?_; (case side1 => repeat (first | (with_reducible first | exact HB.out | apply below_alloc | apply pw_below_drewN | apply below_drew1) | exact HB.out)); (case side2 => exact Kd.R_tight rfl (Kd.R_below F94.out (by repeat (first | exact Below.refl _ _ | (with_reducible first | apply below_alloc | apply pw_below_drewN | apply below_drew1))))); (case side3 => exact fun k_ e_ e2_ => by first | exact (F94.out.1 k_ e_.symm).2 e2_ | exact (F95.out.1 k_ e2_.symm).2 e_ | exact (F94.out.1 k_ e_.symm).2.1 e2_ | exact (F94.out.1 k_ e_.symm).2.2 e2_ | exact e2_.2 e_ | exact e_.2 e2_); (case side4 => exact (Kd.S_below F95.out (by repeat (first | exact Below.refl _ _ | (with_reducible first | apply below_alloc | apply pw_below_drewN | apply below_drew1))))); (case side5 => exact fun k_ e_ e2_ => by first | exact (F95.out.1 k_ e_.symm).2 e2_ | exact (F94.out.1 k_ e2_.symm).2 e_ | exact (F95.out.1 k_ e_.symm).2.1 e2_ | exact (F95.out.1 k_ e_.symm).2.2 e2_ | exact e2_.2 e_ | exact e_.2 e2_); rintro e w18 ⟨rfl, hR0, hR1, hB2, hK2⟩; (try refine ⟨_, rfl, ?_⟩); have hs18 : w17.heap.size ≤ w18.heap.size := Nat.le_trans (below_size (by repeat (first | exact Below.refl _ _ | (with_reducible first | apply below_alloc | apply pw_below_drewN | apply below_drew1)))) hK2.1; have F101 := Aside0.mk (Kd.R_mono (Kd.R_tight rfl hR0) (fun k_ hk_ => F94.out.1 k_ hk_.symm)); have F102 := Aside0.mk (hR1); have F103 := Aside0.mk (Kd.R_kept (Kd.R_below F92.out (by repeat (first | exact Below.refl _ _ | (with_reducible first | apply below_alloc | apply pw_below_drewN | apply below_drew1)))) hK2 (fun k_ hk_ hp_ => by (rcases hp_ with hp_ | hp_ <;> first | (have z_ := (F94.out.1 k_ hp_.symm).1; have z2_ := hk_.1; omega) | (have z_ := hp_.1; have z2_ := hk_.1; omega)))); have F104 := Aside0.mk (Kd.V_kept (Kd.V_below F93.out (by repeat (first | exact Below.refl _ _ | (with_reducible first | apply below_alloc | apply pw_below_drewN | apply below_drew1)))) hK2 (fun k_ hk_ hp_ => by (rcases hp_ with hp_ | hp_ <;> first | (have z_ := (F94.out.1 k_ hp_.symm).1; have z2_ := hk_.1; omega) | (have z_ := hp_.1; have z2_ := hk_.1; omega)))); have F105 := Aside0.mk (Kd.R_kept (Kd.R_below F90.out (by repeat (first | exact Below.refl _ _ | (with_reducible first | apply below_alloc | apply pw_below_drewN | apply below_drew1)))) hK2 (fun k_ hk_ hp_ => by (rcases hp_ with hp_ | hp_ <;> first | (have z_ := (F94.out.1 k_ hp_.symm).1; have z2_ := hk_.1; omega) | (have z_ := hp_.1; have z2_ := hk_.1; omega)))); have F106 := Aside0.mk (Kd.S_kept (Kd.S_below F91.out (by repeat (first | exact Below.refl _ _ | (with_reducible first | apply below_alloc | apply pw_below_drewN | apply below_drew1)))) hK2 (fun k_ hk_ hp_ => by (rcases hp_ with hp_ | hp_ <;> first | (have z_ := (F94.out.1 k_ hp_.symm).1; have z2_ := hk_.1; omega) | (have z_ := hp_.1; have z2_ := hk_.1; omega)))); have F107 := Aside0.mk (Kd.R_kept (Kd.R_below F96.out (by repeat (first | exact Below.refl _ _ | (with_reducible first | apply below_alloc | apply pw_below_drewN | apply below_drew1)))) hK2 (fun k_ hk_ hp_ => by (rcases hp_ with hp_ | hp_ <;> first | (have z_ := (F94.out.1 k_ hp_.symm).1; have z2_ := hk_.1; omega) | (have z_ := hp_.1; have z2_ := hk_.1; omega)))); have F108 := Aside0.mk (Kd.S_kept (Kd.S_below F97.out (by repeat (first | exact Below.refl _ _ | (with_reducible first | apply below_alloc | apply pw_below_drewN | apply below_drew1)))) hK2 (fun k_ hk_ hp_ => by (rcases hp_ with hp_ | hp_ <;> first | (have z_ := (F94.out.1 k_ hp_.symm).1; have z2_ := hk_.1; omega) | (have z_ := hp_.1; have z2_ := hk_.1; omega)))); have NBK0 := Aside0.mk (blk_kept (g := w.heap.size) (o := .cells #[.slice A0_0 l0_0.length c0_0, .slice A0_1 l0_1.length c0_1] 42 (0, 0)) (by (with_reducible repeat (first | refine blk_drewN ?_ _ | refine blk_drew ?_ | refine blk_alloc ?_ _)); exact BK0.out) hK2 (fun hp_ => by (rcases hp_ with hp_ | hp_ <;> first | (have z_ := (F94.out.1 _ hp_.symm).1; omega) | (have z_ := hp_.1; omega)))); have NBK1 := Aside0.mk (blk_kept (g := (w.heap.size + 1)) (o := .cells #[.slice A1_0 l1_0.length c1_0, .slice A1_1 l1_1.length c1_1] 42 (0, 0)) (by (with_reducible repeat (first | refine blk_drewN ?_ _ | refine blk_drew ?_ | refine blk_alloc ?_ _)); exact BK1.out) hK2 (fun hp_ => by (rcases hp_ with hp_ | hp_ <;> first | (have z_ := (F94.out.1 _ hp_.symm).1; omega) | (have z_ := hp_.1; omega)))); have NBK2 := Aside0.mk (blk_kept (g := gx8) (o := .cells #[.slice A6_0 t9.length c6_0, .slice A6_1 t10.length c6_1] 44 (0, 0)) (by (with_reducible repeat (first | refine blk_drewN ?_ _ | refine blk_drew ?_ | refine blk_alloc ?_ _)); exact BK2.out) hK2 (fun hp_ => by (rcases hp_ with hp_ | hp_ <;> first | (have z_ := (F94.out.1 _ hp_.symm).1; omega) | (have z_ := hp_.1; omega)))); have NBK3 := Aside0.mk (blk_kept (g := w9.heap.size) (o := .cells #[.slice A9_0 t3.length c9_0, .slice A9_1 t4.length c9_1] 44 (0, 0)) (by (with_reducible repeat (first | refine blk_drewN ?_ _ | refine blk_drew ?_ | refine blk_alloc ?_ _)); exact BK3.out) hK2 (fun hp_ => by (rcases hp_ with hp_ | hp_ <;> first | (have z_ := (F94.out.1 _ hp_.symm).1; omega) | (have z_ := hp_.1; omega)))); have NBK4 := Aside0.mk (blk_kept (g := w10.heap.size) (o := .cells #[.slice A10_0 t5.length c10_0, .slice A10_1 t6.length c10_1] 44 (0, 0)) (by (with_reducible repeat (first | refine blk_drewN ?_ _ | refine blk_drew ?_ | refine blk_alloc ?_ _)); exact BK4.out) hK2 (fun hp_ => by (rcases hp_ with hp_ | hp_ <;> first | (have z_ := (F94.out.1 _ hp_.symm).1; omega) | (have z_ := hp_.1; omega)))); have NBK5 := Aside0.mk (blk_kept (g := w11.heap.size) (o := .cells #[.slice A11_0 t9.length c11_0, .slice A11_1 t10.length c11_1] 44 (0, 0)) (by (with_reducible repeat (first | refine blk_drewN ?_ _ | refine blk_drew ?_ | refine blk_alloc ?_ _)); exact BK5.out) hK2 (fun hp_ => by (rcases hp_ with hp_ | hp_ <;> first | (have z_ := (F94.out.1 _ hp_.symm).1; omega) | (have z_ := hp_.1; omega)))); (try clear BK0); have BK0 := NBK0; clear NBK0; (try clear hlb0); have hlb0 : w.heap.size < w18.heap.size := blk_lt BK0.out; (try clear cb0_0); have cb0_0 : w18.cell? ⟨w.heap.size, 0, none⟩ = some (.slice A0_0 l0_0.length c0_0) := (blk_cell BK0.out 0).trans rfl; (try clear cb0_1); have cb0_1 : w18.cell? ⟨w.heap.size, 1, none⟩ = some (.slice A0_1 l0_1.length c0_1) := (blk_cell BK0.out 1).trans rfl; (try clear BK1); have BK1 := NBK1; clear NBK1; (try clear hlb1); have hlb1 : (w.heap.size + 1) < w18.heap.size := blk_lt BK1.out; (try clear cb1_0); have cb1_0 : w18.cell? ⟨(w.heap.size + 1), 0, none⟩ = some (.slice A1_0 l1_0.length c1_0) := (blk_cell BK1.out 0).trans rfl; (try clear cb1_1); have cb1_1 : w18.cell? ⟨(w.heap.size + 1), 1, none⟩ = some (.slice A1_1 l1_1.length c1_1) := (blk_cell BK1.out 1).trans rfl; (try clear BK2); have BK2 := NBK2; clear NBK2; (try clear hlb2); have hlb2 : gx8 < w18.heap.size := blk_lt BK2.out; (try clear cb2_0); have cb2_0 : w18.cell? ⟨gx8, 0, none⟩ = some (.slice A6_0 t9.length c6_0) := (blk_cell BK2.out 0).trans rfl; (try clear cb2_1); have cb2_1 : w18.cell? ⟨gx8, 1, none⟩ = some (.slice A6_1 t10.length c6_1) := (blk_cell BK2.out 1).trans rfl; (try clear BK3); have BK3 := NBK3; clear NBK3; (try clear hlb3); have hlb3 : w9.heap.size < w18.heap.size := blk_lt BK3.out; (try clear cb3_0); have cb3_0 : w18.cell? ⟨w9.heap.size, 0, none⟩ = some (.slice A9_0 t3.length c9_0) := (blk_cell BK3.out 0).trans rfl; (try clear cb3_1); have cb3_1 : w18.cell? ⟨w9.heap.size, 1, none⟩ = some (.slice A9_1 t4.length c9_1) := (blk_cell BK3.out 1).trans rfl; (try clear BK4); have BK4 := NBK4; clear NBK4; (try clear hlb4); have hlb4 : w10.heap.size < w18.heap.size := blk_lt BK4.out; (try clear cb4_0); have cb4_0 : w18.cell? ⟨w10.heap.size, 0, none⟩ = some (.slice A10_0 t5.length c10_0) := (blk_cell BK4.out 0).trans rfl; (try clear cb4_1); have cb4_1 : w18.cell? ⟨w10.heap.size, 1, none⟩ = some (.slice A10_1 t6.length c10_1) := (blk_cell BK4.out 1).trans rfl; (try clear BK5); have BK5 := NBK5; clear NBK5; (try clear hlb5); have hlb5 : w11.heap.size < w18.heap.size := blk_lt BK5.out; (try clear cb5_0); have cb5_0 : w18.cell? ⟨w11.heap.size, 0, none⟩ = some (.slice A11_0 t9.length c11_0) := (blk_cell BK5.out 0).trans rfl; (try clear cb5_1); have cb5_1 : w18.cell? ⟨w11.heap.size, 1, none⟩ = some (.slice A11_1 t10.length c11_1) := (blk_cell BK5.out 1).trans rfl; clear HB F92 F93 F90 F91 F94 F95 F96 F97; have HB := Aside0.mk hB2; clear hB2 hK2 hR0 hR1) | ((first | ((with_reducible refine gate_callee (f := 23) rfl ?_); refine goesL_ (some 75) rfl rfl Try.func23 (by kernel_rfl) rfl #[.agg #[.slice A11_0 t9.length c11_0, .slice A11_1 t10.length c11_1], .agg #[.slice A6_0 t9.length c6_0, .slice A6_1 t10.length c6_1]] rfl (by (try simp only [List.map_toArray, List.map_cons, List.map_nil]); first | done | rfl | (simp only [List.length_drop, List.length_take]; rfl)) ?_) | go_at_call 23); (with_reducible refine (laws_eqRelation.calls k _ _ t9 _ _ t10 _ _ t9 _ _ t10 true _ ?side1 ?side2 ?side3 ?side4 ?side5 ?side6 ?side7 ?side8 D6.out).mono ?_); (case side1 => repeat (first | exact (Kd.R_reads' F107.out).2.2 | (with_reducible refine Kd.C_alloc ?_ _) | (with_reducible refine Kd.C_drewN ?_ _) | (with_reducible refine Kd.C_drew ?_))); (case side2 => exact (Kd.R_reads' F107.out).2.1); (case side3 => repeat (first | exact (Kd.S_reads' F108.out).2.2 | (with_reducible refine Kd.C_alloc ?_ _) | (with_reducible refine Kd.C_drewN ?_ _) | (with_reducible refine Kd.C_drew ?_))); (case side4 => exact (Kd.S_reads' F108.out).2.1); (case side5 => repeat (first | exact (Kd.R_reads' F103.out).2.2 | (with_reducible refine Kd.C_alloc ?_ _) | (with_reducible refine Kd.C_drewN ?_ _) | (with_reducible refine Kd.C_drew ?_))); (case side6 => exact (Kd.R_reads' F103.out).2.1); (case side7 => repeat (first | exact (Kd.V_reads' F104.out).2.2 | (with_reducible refine Kd.C_alloc ?_ _) | (with_reducible refine Kd.C_drewN ?_ _) | (with_reducible refine Kd.C_drew ?_))); (case side8 => exact (Kd.V_reads' F104.out).2.1); rintro e w19 ⟨rfl, hb⟩; (try refine ⟨_, rfl, ?_⟩); have hn := below_step (w := w18) (by repeat (first | exact Below.refl _ _ | (with_reducible first | apply below_alloc | apply pw_below_drewN | apply below_drew1))) hb; have hs19 := below_size hn; have hq := Aside0.mk (below_step (by repeat first | exact HB.out | apply below_alloc | apply pw_below_drewN | apply below_drew1) hb); have F109 := Aside0.mk (Kd.R_below F103.out hn); have F110 := Aside0.mk (Kd.V_below F104.out hn); have F111 := Aside0.mk (Kd.R_below F105.out hn); have F112 := Aside0.mk (Kd.S_below F106.out hn); have F113 := Aside0.mk (Kd.R_below F101.out hn); have F114 := Aside0.mk (Kd.S_below F102.out hn); have F115 := Aside0.mk (Kd.R_below F107.out hn); have F116 := Aside0.mk (Kd.S_below F108.out hn); have NBK0 := Aside0.mk (blk_below (g := w.heap.size) (o := .cells #[.slice A0_0 l0_0.length c0_0, .slice A0_1 l0_1.length c0_1] 42 (0, 0)) (by (with_reducible repeat (first | refine blk_drewN ?_ _ | refine blk_drew ?_ | refine blk_alloc ?_ _)); exact BK0.out) hb); have NBK1 := Aside0.mk (blk_below (g := (w.heap.size + 1)) (o := .cells #[.slice A1_0 l1_0.length c1_0, .slice A1_1 l1_1.length c1_1] 42 (0, 0)) (by (with_reducible repeat (first | refine blk_drewN ?_ _ | refine blk_drew ?_ | refine blk_alloc ?_ _)); exact BK1.out) hb); have NBK2 := Aside0.mk (blk_below (g := gx8) (o := .cells #[.slice A6_0 t9.length c6_0, .slice A6_1 t10.length c6_1] 44 (0, 0)) (by (with_reducible repeat (first | refine blk_drewN ?_ _ | refine blk_drew ?_ | refine blk_alloc ?_ _)); exact BK2.out) hb); have NBK3 := Aside0.mk (blk_below (g := w9.heap.size) (o := .cells #[.slice A9_0 t3.length c9_0, .slice A9_1 t4.length c9_1] 44 (0, 0)) (by (with_reducible repeat (first | refine blk_drewN ?_ _ | refine blk_drew ?_ | refine blk_alloc ?_ _)); exact BK3.out) hb); have NBK4 := Aside0.mk (blk_below (g := w10.heap.size) (o := .cells #[.slice A10_0 t5.length c10_0, .slice A10_1 t6.length c10_1] 44 (0, 0)) (by (with_reducible repeat (first | refine blk_drewN ?_ _ | refine blk_drew ?_ | refine blk_alloc ?_ _)); exact BK4.out) hb); have NBK5 := Aside0.mk (blk_below (g := w11.heap.size) (o := .cells #[.slice A11_0 t9.length c11_0, .slice A11_1 t10.length c11_1] 44 (0, 0)) (by (with_reducible repeat (first | refine blk_drewN ?_ _ | refine blk_drew ?_ | refine blk_alloc ?_ _)); exact BK5.out) hb); (try clear BK0); have BK0 := NBK0; clear NBK0; (try clear hlb0); have hlb0 : w.heap.size < w19.heap.size := blk_lt BK0.out; (try clear cb0_0); have cb0_0 : w19.cell? ⟨w.heap.size, 0, none⟩ = some (.slice A0_0 l0_0.length c0_0) := (blk_cell BK0.out 0).trans rfl; (try clear cb0_1); have cb0_1 : w19.cell? ⟨w.heap.size, 1, none⟩ = some (.slice A0_1 l0_1.length c0_1) := (blk_cell BK0.out 1).trans rfl; (try clear BK1); have BK1 := NBK1; clear NBK1; (try clear hlb1); have hlb1 : (w.heap.size + 1) < w19.heap.size := blk_lt BK1.out; (try clear cb1_0); have cb1_0 : w19.cell? ⟨(w.heap.size + 1), 0, none⟩ = some (.slice A1_0 l1_0.length c1_0) := (blk_cell BK1.out 0).trans rfl; (try clear cb1_1); have cb1_1 : w19.cell? ⟨(w.heap.size + 1), 1, none⟩ = some (.slice A1_1 l1_1.length c1_1) := (blk_cell BK1.out 1).trans rfl; (try clear BK2); have BK2 := NBK2; clear NBK2; (try clear hlb2); have hlb2 : gx8 < w19.heap.size := blk_lt BK2.out; (try clear cb2_0); have cb2_0 : w19.cell? ⟨gx8, 0, none⟩ = some (.slice A6_0 t9.length c6_0) := (blk_cell BK2.out 0).trans rfl; (try clear cb2_1); have cb2_1 : w19.cell? ⟨gx8, 1, none⟩ = some (.slice A6_1 t10.length c6_1) := (blk_cell BK2.out 1).trans rfl; (try clear BK3); have BK3 := NBK3; clear NBK3; (try clear hlb3); have hlb3 : w9.heap.size < w19.heap.size := blk_lt BK3.out; (try clear cb3_0); have cb3_0 : w19.cell? ⟨w9.heap.size, 0, none⟩ = some (.slice A9_0 t3.length c9_0) := (blk_cell BK3.out 0).trans rfl; (try clear cb3_1); have cb3_1 : w19.cell? ⟨w9.heap.size, 1, none⟩ = some (.slice A9_1 t4.length c9_1) := (blk_cell BK3.out 1).trans rfl; (try clear BK4); have BK4 := NBK4; clear NBK4; (try clear hlb4); have hlb4 : w10.heap.size < w19.heap.size := blk_lt BK4.out; (try clear cb4_0); have cb4_0 : w19.cell? ⟨w10.heap.size, 0, none⟩ = some (.slice A10_0 t5.length c10_0) := (blk_cell BK4.out 0).trans rfl; (try clear cb4_1); have cb4_1 : w19.cell? ⟨w10.heap.size, 1, none⟩ = some (.slice A10_1 t6.length c10_1) := (blk_cell BK4.out 1).trans rfl; (try clear BK5); have BK5 := NBK5; clear NBK5; (try clear hlb5); have hlb5 : w11.heap.size < w19.heap.size := blk_lt BK5.out; (try clear cb5_0); have cb5_0 : w19.cell? ⟨w11.heap.size, 0, none⟩ = some (.slice A11_0 t9.length c11_0) := (blk_cell BK5.out 0).trans rfl; (try clear cb5_1); have cb5_1 : w19.cell? ⟨w11.heap.size, 1, none⟩ = some (.slice A11_1 t10.length c11_1) := (blk_cell BK5.out 1).trans rfl; clear HB F103 F104 F105 F106 F101 F102 F107 F108; have HB := hq; clear hq hn hb ) | ((first | ((with_reducible refine gate_callee (f := 24) rfl ?_); refine goesL_ (some 85) rfl rfl Try.func24 (by kernel_rfl) rfl #[.agg #[.slice A11_0 t9.length c11_0, .slice A11_1 t10.length c11_1], .int .i64 1] rfl (by (try simp only [List.map_toArray, List.map_cons, List.map_nil]); first | done | rfl | (simp only [List.length_drop, List.length_take]; rfl)) ?_) | go_at_call 24); refine (laws_markRelation.calls k (fun k_ => some k_ = (.slice A11_0 t9.length c11_0 : Value).ownBlock) (.slice A11_0 t9.length c11_0) t9 (fun k_ => ((w10.heap.size + 1) ≤ k_ ∧ k_ < w11.heap.size) ∧ (some k_ ≠ (.slice A11_0 t9.length c11_0 : Value).ownBlock)) (.slice A11_1 t10.length c11_1) t10 1 t117 z118 z119 w _ ?side1 ?side2 ?side3 ?side4 ?side5 D11.out).mono ?_; (case side1 => repeat (first | (with_reducible first | exact HB.out | apply below_alloc | apply pw_below_drewN | apply below_drew1) | exact HB.out)); (case side2 => exact Kd.R_tight rfl (Kd.R_below F115.out (by repeat (first | exact Below.refl _ _ | (with_reducible first | apply below_alloc | apply pw_below_drewN | apply below_drew1))))); (case side3 => exact fun k_ e_ e2_ => by first | exact (F115.out.1 k_ e_.symm).2 e2_ | exact (F116.out.1 k_ e2_.symm).2 e_ | exact (F115.out.1 k_ e_.symm).2.1 e2_ | exact (F115.out.1 k_ e_.symm).2.2 e2_ | exact e2_.2 e_ | exact e_.2 e2_); (case side4 => exact (Kd.S_below F116.out (by repeat (first | exact Below.refl _ _ | (with_reducible first | apply below_alloc | apply pw_below_drewN | apply below_drew1))))); (case side5 => exact fun k_ e_ e2_ => by first | exact (F116.out.1 k_ e_.symm).2 e2_ | exact (F115.out.1 k_ e2_.symm).2 e_ | exact (F116.out.1 k_ e_.symm).2.1 e2_ | exact (F116.out.1 k_ e_.symm).2.2 e2_ | exact e2_.2 e_ | exact e_.2 e2_); rintro e w20 ⟨rfl, hR0, hR1, hB2, hK2⟩; (try refine ⟨_, rfl, ?_⟩); have hs20 : w19.heap.size ≤ w20.heap.size := Nat.le_trans (below_size (by repeat (first | exact Below.refl _ _ | (with_reducible first | apply below_alloc | apply pw_below_drewN | apply below_drew1)))) hK2.1; have F120 := Aside0.mk (Kd.R_mono (Kd.R_tight rfl hR0) (fun k_ hk_ => F115.out.1 k_ hk_.symm)); have F121 := Aside0.mk (hR1); have F122 := Aside0.mk (Kd.R_kept (Kd.R_below F109.out (by repeat (first | exact Below.refl _ _ | (with_reducible first | apply below_alloc | apply pw_below_drewN | apply below_drew1)))) hK2 (fun k_ hk_ hp_ => by (rcases hp_ with hp_ | hp_ <;> first | (have z_ := (F115.out.1 k_ hp_.symm).1; have z2_ := hk_.1; omega) | (have z_ := hp_.1; have z2_ := hk_.1; omega)))); have F123 := Aside0.mk (Kd.V_kept (Kd.V_below F110.out (by repeat (first | exact Below.refl _ _ | (with_reducible first | apply below_alloc | apply pw_below_drewN | apply below_drew1)))) hK2 (fun k_ hk_ hp_ => by (rcases hp_ with hp_ | hp_ <;> first | (have z_ := (F115.out.1 k_ hp_.symm).1; have z2_ := hk_.1; omega) | (have z_ := hp_.1; have z2_ := hk_.1; omega)))); have F124 := Aside0.mk (Kd.R_kept (Kd.R_below F111.out (by repeat (first | exact Below.refl _ _ | (with_reducible first | apply below_alloc | apply pw_below_drewN | apply below_drew1)))) hK2 (fun k_ hk_ hp_ => by (rcases hp_ with hp_ | hp_ <;> first | (have z_ := (F115.out.1 k_ hp_.symm).1; have z2_ := hk_.1; omega) | (have z_ := hp_.1; have z2_ := hk_.1; omega)))); have F125 := Aside0.mk (Kd.S_kept (Kd.S_below F112.out (by repeat (first | exact Below.refl _ _ | (with_reducible first | apply below_alloc | apply pw_below_drewN | apply below_drew1)))) hK2 (fun k_ hk_ hp_ => by (rcases hp_ with hp_ | hp_ <;> first | (have z_ := (F115.out.1 k_ hp_.symm).1; have z2_ := hk_.1; omega) | (have z_ := hp_.1; have z2_ := hk_.1; omega)))); have F126 := Aside0.mk (Kd.R_kept (Kd.R_below F113.out (by repeat (first | exact Below.refl _ _ | (with_reducible first | apply below_alloc | apply pw_below_drewN | apply below_drew1)))) hK2 (fun k_ hk_ hp_ => by (rcases hp_ with hp_ | hp_ <;> first | (have z_ := (F115.out.1 k_ hp_.symm).1; have z2_ := hk_.1; omega) | (have z_ := hp_.1; have z2_ := hk_.1; omega)))); have F127 := Aside0.mk (Kd.S_kept (Kd.S_below F114.out (by repeat (first | exact Below.refl _ _ | (with_reducible first | apply below_alloc | apply pw_below_drewN | apply below_drew1)))) hK2 (fun k_ hk_ hp_ => by (rcases hp_ with hp_ | hp_ <;> first | (have z_ := (F115.out.1 k_ hp_.symm).1; have z2_ := hk_.1; omega) | (have z_ := hp_.1; have z2_ := hk_.1; omega)))); have NBK0 := Aside0.mk (blk_kept (g := w.heap.size) (o := .cells #[.slice A0_0 l0_0.length c0_0, .slice A0_1 l0_1.length c0_1] 42 (0, 0)) (by (with_reducible repeat (first | refine blk_drewN ?_ _ | refine blk_drew ?_ | refine blk_alloc ?_ _)); exact BK0.out) hK2 (fun hp_ => by (rcases hp_ with hp_ | hp_ <;> first | (have z_ := (F115.out.1 _ hp_.symm).1; omega) | (have z_ := hp_.1; omega)))); have NBK1 := Aside0.mk (blk_kept (g := (w.heap.size + 1)) (o := .cells #[.slice A1_0 l1_0.length c1_0, .slice A1_1 l1_1.length c1_1] 42 (0, 0)) (by (with_reducible repeat (first | refine blk_drewN ?_ _ | refine blk_drew ?_ | refine blk_alloc ?_ _)); exact BK1.out) hK2 (fun hp_ => by (rcases hp_ with hp_ | hp_ <;> first | (have z_ := (F115.out.1 _ hp_.symm).1; omega) | (have z_ := hp_.1; omega)))); have NBK2 := Aside0.mk (blk_kept (g := gx8) (o := .cells #[.slice A6_0 t9.length c6_0, .slice A6_1 t10.length c6_1] 44 (0, 0)) (by (with_reducible repeat (first | refine blk_drewN ?_ _ | refine blk_drew ?_ | refine blk_alloc ?_ _)); exact BK2.out) hK2 (fun hp_ => by (rcases hp_ with hp_ | hp_ <;> first | (have z_ := (F115.out.1 _ hp_.symm).1; omega) | (have z_ := hp_.1; omega)))); have NBK3 := Aside0.mk (blk_kept (g := w9.heap.size) (o := .cells #[.slice A9_0 t3.length c9_0, .slice A9_1 t4.length c9_1] 44 (0, 0)) (by (with_reducible repeat (first | refine blk_drewN ?_ _ | refine blk_drew ?_ | refine blk_alloc ?_ _)); exact BK3.out) hK2 (fun hp_ => by (rcases hp_ with hp_ | hp_ <;> first | (have z_ := (F115.out.1 _ hp_.symm).1; omega) | (have z_ := hp_.1; omega)))); have NBK4 := Aside0.mk (blk_kept (g := w10.heap.size) (o := .cells #[.slice A10_0 t5.length c10_0, .slice A10_1 t6.length c10_1] 44 (0, 0)) (by (with_reducible repeat (first | refine blk_drewN ?_ _ | refine blk_drew ?_ | refine blk_alloc ?_ _)); exact BK4.out) hK2 (fun hp_ => by (rcases hp_ with hp_ | hp_ <;> first | (have z_ := (F115.out.1 _ hp_.symm).1; omega) | (have z_ := hp_.1; omega)))); have NBK5 := Aside0.mk (blk_kept (g := w11.heap.size) (o := .cells #[.slice A11_0 t9.length c11_0, .slice A11_1 t10.length c11_1] 44 (0, 0)) (by (with_reducible repeat (first | refine blk_drewN ?_ _ | refine blk_drew ?_ | refine blk_alloc ?_ _)); exact BK5.out) hK2 (fun hp_ => by (rcases hp_ with hp_ | hp_ <;> first | (have z_ := (F115.out.1 _ hp_.symm).1; omega) | (have z_ := hp_.1; omega)))); (try clear BK0); have BK0 := NBK0; clear NBK0; (try clear hlb0); have hlb0 : w.heap.size < w20.heap.size := blk_lt BK0.out; (try clear cb0_0); have cb0_0 : w20.cell? ⟨w.heap.size, 0, none⟩ = some (.slice A0_0 l0_0.length c0_0) := (blk_cell BK0.out 0).trans rfl; (try clear cb0_1); have cb0_1 : w20.cell? ⟨w.heap.size, 1, none⟩ = some (.slice A0_1 l0_1.length c0_1) := (blk_cell BK0.out 1).trans rfl; (try clear BK1); have BK1 := NBK1; clear NBK1; (try clear hlb1); have hlb1 : (w.heap.size + 1) < w20.heap.size := blk_lt BK1.out; (try clear cb1_0); have cb1_0 : w20.cell? ⟨(w.heap.size + 1), 0, none⟩ = some (.slice A1_0 l1_0.length c1_0) := (blk_cell BK1.out 0).trans rfl; (try clear cb1_1); have cb1_1 : w20.cell? ⟨(w.heap.size + 1), 1, none⟩ = some (.slice A1_1 l1_1.length c1_1) := (blk_cell BK1.out 1).trans rfl; (try clear BK2); have BK2 := NBK2; clear NBK2; (try clear hlb2); have hlb2 : gx8 < w20.heap.size := blk_lt BK2.out; (try clear cb2_0); have cb2_0 : w20.cell? ⟨gx8, 0, none⟩ = some (.slice A6_0 t9.length c6_0) := (blk_cell BK2.out 0).trans rfl; (try clear cb2_1); have cb2_1 : w20.cell? ⟨gx8, 1, none⟩ = some (.slice A6_1 t10.length c6_1) := (blk_cell BK2.out 1).trans rfl; (try clear BK3); have BK3 := NBK3; clear NBK3; (try clear hlb3); have hlb3 : w9.heap.size < w20.heap.size := blk_lt BK3.out; (try clear cb3_0); have cb3_0 : w20.cell? ⟨w9.heap.size, 0, none⟩ = some (.slice A9_0 t3.length c9_0) := (blk_cell BK3.out 0).trans rfl; (try clear cb3_1); have cb3_1 : w20.cell? ⟨w9.heap.size, 1, none⟩ = some (.slice A9_1 t4.length c9_1) := (blk_cell BK3.out 1).trans rfl; (try clear BK4); have BK4 := NBK4; clear NBK4; (try clear hlb4); have hlb4 : w10.heap.size < w20.heap.size := blk_lt BK4.out; (try clear cb4_0); have cb4_0 : w20.cell? ⟨w10.heap.size, 0, none⟩ = some (.slice A10_0 t5.length c10_0) := (blk_cell BK4.out 0).trans rfl; (try clear cb4_1); have cb4_1 : w20.cell? ⟨w10.heap.size, 1, none⟩ = some (.slice A10_1 t6.length c10_1) := (blk_cell BK4.out 1).trans rfl; (try clear BK5); have BK5 := NBK5; clear NBK5; (try clear hlb5); have hlb5 : w11.heap.size < w20.heap.size := blk_lt BK5.out; (try clear cb5_0); have cb5_0 : w20.cell? ⟨w11.heap.size, 0, none⟩ = some (.slice A11_0 t9.length c11_0) := (blk_cell BK5.out 0).trans rfl; (try clear cb5_1); have cb5_1 : w20.cell? ⟨w11.heap.size, 1, none⟩ = some (.slice A11_1 t10.length c11_1) := (blk_cell BK5.out 1).trans rfl; clear HB F109 F110 F111 F112 F113 F114 F115 F116; have HB := Aside0.mk hB2; clear hB2 hK2 hR0 hR1) | ((first | ((with_reducible refine gate_callee (f := 25) rfl ?_); refine goesL_ (some 88) rfl rfl Try.func25 (by kernel_rfl) rfl #[.agg #[.slice A11_0 t9.length c11_0, .slice A11_1 t10.length c11_1], .int .i64 1] rfl (by (try simp only [List.map_toArray, List.map_cons, List.map_nil]); first | done | rfl | (simp only [List.length_drop, List.length_take]; rfl)) ?_) | go_at_call 25); refine (calls_eq (xs_ := #[.agg #[.slice A11_0 z118.length c11_0, .slice A11_1 z119.length c11_1], .int .i64 1]) (ys_ := #[.agg #[.slice A11_0 t9.length c11_0, .slice A11_1 t10.length c11_1], .int .i64 1]) (by rw [(Kd.R_reads' F120.out).1, (Kd.S_reads' F121.out).1]) (laws_heldRelation.calls k _ _ z118 _ _ z119 1 t117 _ ?side1 ?side2 ?side3 ?side4 D12.out)).mono ?_; (case side1 => repeat (first | exact (by have h_ := Kd.R_reads' F120.out; rw [h_.1] at h_; exact h_.2.2) | (with_reducible refine Kd.C_alloc ?_ _) | (with_reducible refine Kd.C_drewN ?_ _) | (with_reducible refine Kd.C_drew ?_))); (case side2 => exact (by have h_ := Kd.R_reads' F120.out; rw [h_.1] at h_; exact h_.2.1)); (case side3 => repeat (first | exact (by have h_ := Kd.S_reads' F121.out; rw [h_.1] at h_; exact h_.2.2) | (with_reducible refine Kd.C_alloc ?_ _) | (with_reducible refine Kd.C_drewN ?_ _) | (with_reducible refine Kd.C_drew ?_))); (case side4 => exact (by have h_ := Kd.S_reads' F121.out; rw [h_.1] at h_; exact h_.2.1)); rintro e w21 ⟨rfl, hb⟩; (try refine ⟨_, rfl, ?_⟩); have hn := below_step (w := w20) (by repeat (first | exact Below.refl _ _ | (with_reducible first | apply below_alloc | apply pw_below_drewN | apply below_drew1))) hb; have hs21 := below_size hn; have hq := Aside0.mk (below_step (by repeat first | exact HB.out | apply below_alloc | apply pw_below_drewN | apply below_drew1) hb); have F128 := Aside0.mk (Kd.R_below F122.out hn); have F129 := Aside0.mk (Kd.V_below F123.out hn); have F130 := Aside0.mk (Kd.R_below F124.out hn); have F131 := Aside0.mk (Kd.S_below F125.out hn); have F132 := Aside0.mk (Kd.R_below F126.out hn); have F133 := Aside0.mk (Kd.S_below F127.out hn); have F134 := Aside0.mk (Kd.R_below F120.out hn); have F135 := Aside0.mk (Kd.S_below F121.out hn); have NBK0 := Aside0.mk (blk_below (g := w.heap.size) (o := .cells #[.slice A0_0 l0_0.length c0_0, .slice A0_1 l0_1.length c0_1] 42 (0, 0)) (by (with_reducible repeat (first | refine blk_drewN ?_ _ | refine blk_drew ?_ | refine blk_alloc ?_ _)); exact BK0.out) hb); have NBK1 := Aside0.mk (blk_below (g := (w.heap.size + 1)) (o := .cells #[.slice A1_0 l1_0.length c1_0, .slice A1_1 l1_1.length c1_1] 42 (0, 0)) (by (with_reducible repeat (first | refine blk_drewN ?_ _ | refine blk_drew ?_ | refine blk_alloc ?_ _)); exact BK1.out) hb); have NBK2 := Aside0.mk (blk_below (g := gx8) (o := .cells #[.slice A6_0 t9.length c6_0, .slice A6_1 t10.length c6_1] 44 (0, 0)) (by (with_reducible repeat (first | refine blk_drewN ?_ _ | refine blk_drew ?_ | refine blk_alloc ?_ _)); exact BK2.out) hb); have NBK3 := Aside0.mk (blk_below (g := w9.heap.size) (o := .cells #[.slice A9_0 t3.length c9_0, .slice A9_1 t4.length c9_1] 44 (0, 0)) (by (with_reducible repeat (first | refine blk_drewN ?_ _ | refine blk_drew ?_ | refine blk_alloc ?_ _)); exact BK3.out) hb); have NBK4 := Aside0.mk (blk_below (g := w10.heap.size) (o := .cells #[.slice A10_0 t5.length c10_0, .slice A10_1 t6.length c10_1] 44 (0, 0)) (by (with_reducible repeat (first | refine blk_drewN ?_ _ | refine blk_drew ?_ | refine blk_alloc ?_ _)); exact BK4.out) hb); have NBK5 := Aside0.mk (blk_below (g := w11.heap.size) (o := .cells #[.slice A11_0 t9.length c11_0, .slice A11_1 t10.length c11_1] 44 (0, 0)) (by (with_reducible repeat (first | refine blk_drewN ?_ _ | refine blk_drew ?_ | refine blk_alloc ?_ _)); exact BK5.out) hb); (try clear BK0); have BK0 := NBK0; clear NBK0; (try clear hlb0); have hlb0 : w.heap.size < w21.heap.size := blk_lt BK0.out; (try clear cb0_0); have cb0_0 : w21.cell? ⟨w.heap.size, 0, none⟩ = some (.slice A0_0 l0_0.length c0_0) := (blk_cell BK0.out 0).trans rfl; (try clear cb0_1); have cb0_1 : w21.cell? ⟨w.heap.size, 1, none⟩ = some (.slice A0_1 l0_1.length c0_1) := (blk_cell BK0.out 1).trans rfl; (try clear BK1); have BK1 := NBK1; clear NBK1; (try clear hlb1); have hlb1 : (w.heap.size + 1) < w21.heap.size := blk_lt BK1.out; (try clear cb1_0); have cb1_0 : w21.cell? ⟨(w.heap.size + 1), 0, none⟩ = some (.slice A1_0 l1_0.length c1_0) := (blk_cell BK1.out 0).trans rfl; (try clear cb1_1); have cb1_1 : w21.cell? ⟨(w.heap.size + 1), 1, none⟩ = some (.slice A1_1 l1_1.length c1_1) := (blk_cell BK1.out 1).trans rfl; (try clear BK2); have BK2 := NBK2; clear NBK2; (try clear hlb2); have hlb2 : gx8 < w21.heap.size := blk_lt BK2.out; (try clear cb2_0); have cb2_0 : w21.cell? ⟨gx8, 0, none⟩ = some (.slice A6_0 t9.length c6_0) := (blk_cell BK2.out 0).trans rfl; (try clear cb2_1); have cb2_1 : w21.cell? ⟨gx8, 1, none⟩ = some (.slice A6_1 t10.length c6_1) := (blk_cell BK2.out 1).trans rfl; (try clear BK3); have BK3 := NBK3; clear NBK3; (try clear hlb3); have hlb3 : w9.heap.size < w21.heap.size := blk_lt BK3.out; (try clear cb3_0); have cb3_0 : w21.cell? ⟨w9.heap.size, 0, none⟩ = some (.slice A9_0 t3.length c9_0) := (blk_cell BK3.out 0).trans rfl; (try clear cb3_1); have cb3_1 : w21.cell? ⟨w9.heap.size, 1, none⟩ = some (.slice A9_1 t4.length c9_1) := (blk_cell BK3.out 1).trans rfl; (try clear BK4); have BK4 := NBK4; clear NBK4; (try clear hlb4); have hlb4 : w10.heap.size < w21.heap.size := blk_lt BK4.out; (try clear cb4_0); have cb4_0 : w21.cell? ⟨w10.heap.size, 0, none⟩ = some (.slice A10_0 t5.length c10_0) := (blk_cell BK4.out 0).trans rfl; (try clear cb4_1); have cb4_1 : w21.cell? ⟨w10.heap.size, 1, none⟩ = some (.slice A10_1 t6.length c10_1) := (blk_cell BK4.out 1).trans rfl; (try clear BK5); have BK5 := NBK5; clear NBK5; (try clear hlb5); have hlb5 : w11.heap.size < w21.heap.size := blk_lt BK5.out; (try clear cb5_0); have cb5_0 : w21.cell? ⟨w11.heap.size, 0, none⟩ = some (.slice A11_0 t9.length c11_0) := (blk_cell BK5.out 0).trans rfl; (try clear cb5_1); have cb5_1 : w21.cell? ⟨w11.heap.size, 1, none⟩ = some (.slice A11_1 t10.length c11_1) := (blk_cell BK5.out 1).trans rfl; clear HB F122 F123 F124 F125 F126 F127 F120 F121; have HB := hq; clear hq hn hb ))
 refine start_ (n := 11) (S := fun w' => w'.cell? ⟨w.heap.size, 0, none⟩ = some (.slice A0_0 l0_0.length c0_0) ∧ w'.cell? ⟨w.heap.size, 1, none⟩ = some (.slice A0_1 l0_1.length c0_1) ∧ w'.cell? ⟨(w.heap.size + 1), 0, none⟩ = some (.slice A1_0 l1_0.length c1_0) ∧ w'.cell? ⟨(w.heap.size + 1), 1, none⟩ = some (.slice A1_1 l1_1.length c1_1)) (ds := [9]) #[false, false, false, false, false, false, false, false, false, false, false] (by kernel_rfl) rfl rfl ⟨(blk_cell (by first | exact BK0.out | exact blk_drew BK0.out | exact blk_drewN BK0.out _ | exact h_alloc2_old _ _ _ | exact h_alloc2_new _ _ _ | exact heap_alloc_new _ _) 0).trans rfl, (blk_cell (by first | exact BK0.out | exact blk_drew BK0.out | exact blk_drewN BK0.out _ | exact h_alloc2_old _ _ _ | exact h_alloc2_new _ _ _ | exact heap_alloc_new _ _) 1).trans rfl, (blk_cell (by first | exact BK1.out | exact blk_drew BK1.out | exact blk_drewN BK1.out _ | exact h_alloc2_old _ _ _ | exact h_alloc2_new _ _ _ | exact heap_alloc_new _ _) 0).trans rfl, (blk_cell (by first | exact BK1.out | exact blk_drew BK1.out | exact blk_drewN BK1.out _ | exact h_alloc2_old _ _ _ | exact h_alloc2_new _ _ _ | exact heap_alloc_new _ _) 1).trans rfl⟩ (fun hHeld => ?_)
 refine letter_ (fun w' => Below w21.heap.size w21 w' ∧ w21.heap.size + 0 ≤ w'.heap.size ∧ w'.heap[w.heap.size]? = some (.cells #[.slice A0_0 l0_0.length c0_0, .slice A0_1 l0_1.length c0_1] 42 (0, 0)) ∧ w'.heap[(w.heap.size + 1)]? = some (.cells #[.slice A1_0 l1_0.length c1_0, .slice A1_1 l1_1.length c1_1] 42 (0, 0)) ∧ w'.heap[gx8]? = some (.cells #[.slice A6_0 t9.length c6_0, .slice A6_1 t10.length c6_1] 44 (0, 0)) ∧ w'.heap[w9.heap.size]? = some (.cells #[.slice A9_0 t3.length c9_0, .slice A9_1 t4.length c9_1] 44 (0, 0)) ∧ w'.heap[w10.heap.size]? = some (.cells #[.slice A10_0 t5.length c10_0, .slice A10_1 t6.length c10_1] 44 (0, 0)) ∧ w'.heap[w11.heap.size]? = some (.cells #[.slice A11_0 t9.length c11_0, .slice A11_1 t10.length c11_1] 44 (0, 0))) ⟨by repeat (first | exact Below.refl _ _ | (with_reducible first | apply below_alloc | apply pw_below_drewN | apply below_drew1)), (by first | exact below_size (by repeat (first | exact Below.refl _ _ | (with_reducible first | apply below_alloc | apply pw_below_drewN | apply below_drew1))) | (simp; done) | (simp; omega)), (by (with_reducible repeat (first | refine blk_drewN ?_ _ | refine blk_drew ?_ | refine blk_alloc ?_ _)); exact BK0.out), (by (with_reducible repeat (first | refine blk_drewN ?_ _ | refine blk_drew ?_ | refine blk_alloc ?_ _)); exact BK1.out), (by (with_reducible repeat (first | refine blk_drewN ?_ _ | refine blk_drew ?_ | refine blk_alloc ?_ _)); exact BK2.out), (by (with_reducible repeat (first | refine blk_drewN ?_ _ | refine blk_drew ?_ | refine blk_alloc ?_ _)); exact BK3.out), (by (with_reducible repeat (first | refine blk_drewN ?_ _ | refine blk_drew ?_ | refine blk_alloc ?_ _)); exact BK4.out), (by (with_reducible repeat (first | refine blk_drewN ?_ _ | refine blk_drew ?_ | refine blk_alloc ?_ _)); exact BK5.out)⟩ ?_
 clear hHeld
 rintro w22 ⟨hn, hq22, hBK0, hBK1, hBK2, hBK3, hBK4, hBK5⟩
 have hs22 := below_size hn
 have NHB := Aside0.mk (below_step HB.out hn)
 have F136 := Aside0.mk (Kd.R_below F128.out hn)
 have F137 := Aside0.mk (Kd.V_below F129.out hn)
 have F138 := Aside0.mk (Kd.R_below F130.out hn)
 have F139 := Aside0.mk (Kd.S_below F131.out hn)
 have F140 := Aside0.mk (Kd.R_below F132.out hn)
 have F141 := Aside0.mk (Kd.S_below F133.out hn)
 have F142 := Aside0.mk (Kd.R_below F134.out hn)
 have F143 := Aside0.mk (Kd.S_below F135.out hn)
 (try clear BK0)
 have BK0 := Aside0.mk hBK0
 clear hBK0
 (try clear hlb0)
 have hlb0 : w.heap.size < w22.heap.size := blk_lt BK0.out
 (try clear BK1)
 have BK1 := Aside0.mk hBK1
 clear hBK1
 (try clear hlb1)
 have hlb1 : (w.heap.size + 1) < w22.heap.size := blk_lt BK1.out
 (try clear BK2)
 have BK2 := Aside0.mk hBK2
 clear hBK2
 (try clear hlb2)
 have hlb2 : gx8 < w22.heap.size := blk_lt BK2.out
 (try clear BK3)
 have BK3 := Aside0.mk hBK3
 clear hBK3
 (try clear hlb3)
 have hlb3 : w9.heap.size < w22.heap.size := blk_lt BK3.out
 (try clear BK4)
 have BK4 := Aside0.mk hBK4
 clear hBK4
 (try clear hlb4)
 have hlb4 : w10.heap.size < w22.heap.size := blk_lt BK4.out
 (try clear BK5)
 have BK5 := Aside0.mk hBK5
 clear hBK5
 (try clear hlb5)
 have hlb5 : w11.heap.size < w22.heap.size := blk_lt BK5.out
 clear HB F128 F129 F130 F131 F132 F133 F134 F135
 have HB := NHB
 clear NHB hn
 have hHeld : w22.cell? ⟨w.heap.size, 0, none⟩ = some (.slice A0_0 l0_0.length c0_0) ∧ w22.cell? ⟨w.heap.size, 1, none⟩ = some (.slice A0_1 l0_1.length c0_1) ∧ w22.cell? ⟨(w.heap.size + 1), 0, none⟩ = some (.slice A1_0 l1_0.length c1_0) ∧ w22.cell? ⟨(w.heap.size + 1), 1, none⟩ = some (.slice A1_1 l1_1.length c1_1) := ⟨(blk_cell BK0.out 0).trans rfl, (blk_cell BK0.out 1).trans rfl, (blk_cell BK1.out 0).trans rfl, (blk_cell BK1.out 1).trans rfl⟩
 refine take_ (i := 0) (N := some 95) (v := ?_) (a' := ?_) #[true, false, false, false, false, false, false, false, false, false, false] rfl rfl (by kernel_rfl) (fun _ _ _ h => h) (Or.inl ⟨by rfl, ?_⟩) hHeld ?_ ?_
 rotate_left
 ·rintro w' ⟨s0, s1, s2, s3⟩
  go_simp
  with_reducible rfl
 rotate_left
 ·simp only [Act.put, List.setIfInBounds_toArray, List.set_cons_zero, List.set_cons_succ, i64_w, i32_w]
  rfl
 refine take_ (i := 2) (N := some 97) (v := ?_) (a' := ?_) #[true, false, true, false, false, false, false, false, false, false, false] rfl rfl (by kernel_rfl) (fun _ _ _ h => h) (Or.inl ⟨by rfl, ?_⟩) hHeld ?_ ?_
 rotate_left
 ·rintro w' ⟨s0, s1, s2, s3⟩
  go_simp
  with_reducible rfl
 rotate_left
 ·simp only [Act.put, List.setIfInBounds_toArray, List.set_cons_zero, List.set_cons_succ, i64_w, i32_w]
  rfl
 refine join_ (σ := World × World × World × Option Addr × Nat × Option Addr × Nat × Option Addr × Nat × Option Addr × Nat × Option Addr × Nat × Option Addr × Nat × Nat) 2 #[true, true, true, true, true, true, true, true, true, false, false] (fun s => [(96, (.agg #[.slice s.2.2.2.1 t3.length s.2.2.2.2.1, .slice s.2.2.2.2.2.1 t4.length s.2.2.2.2.2.2.1] : Value)), (98, (.agg #[.slice s.2.2.2.2.2.2.2.1 t5.length s.2.2.2.2.2.2.2.2.1, .slice s.2.2.2.2.2.2.2.2.2.1 t6.length s.2.2.2.2.2.2.2.2.2.2.1] : Value)), (99, (.tuple #[.agg #[.slice s.2.2.2.2.2.2.2.2.2.2.2.1 t9.length s.2.2.2.2.2.2.2.2.2.2.2.2.1, .slice s.2.2.2.2.2.2.2.2.2.2.2.2.2.1 t10.length s.2.2.2.2.2.2.2.2.2.2.2.2.2.2.1], .bool t11] : Value)), (15, (.pointer (some ⟨s.2.2.2.2.2.2.2.2.2.2.2.2.2.2.2, 0, none⟩) : Value)), (94, (.tuple #[.agg #[.slice s.2.2.2.2.2.2.2.2.2.2.2.1 t9.length s.2.2.2.2.2.2.2.2.2.2.2.2.1, .slice s.2.2.2.2.2.2.2.2.2.2.2.2.2.1 t10.length s.2.2.2.2.2.2.2.2.2.2.2.2.2.2.1], .bool t11] : Value)), (100, (.agg #[.slice s.2.2.2.2.2.2.2.2.2.2.2.1 t9.length s.2.2.2.2.2.2.2.2.2.2.2.2.1, .slice s.2.2.2.2.2.2.2.2.2.2.2.2.2.1 t10.length s.2.2.2.2.2.2.2.2.2.2.2.2.2.2.1] : Value)), (101, (.bool t11 : Value))]) (fun s w' => w22.heap.size ≤ s.1.heap.size ∧ s.1.heap.size ≤ s.2.1.heap.size ∧ s.2.1.heap.size ≤ s.2.2.1.heap.size ∧ s.2.2.1.heap.size ≤ w'.heap.size ∧ w22.heap.size ≤ s.2.2.2.2.2.2.2.2.2.2.2.2.2.2.2 ∧ s.2.2.2.2.2.2.2.2.2.2.2.2.2.2.2 < w'.heap.size ∧ w'.heap[s.2.2.2.2.2.2.2.2.2.2.2.2.2.2.2]? = some (.cells #[.slice none 0 0, .slice none 0 0] 44 (0, 0)) ∧ Below w.heap.size w w' ∧ Kd.R (Kd.int .i64) 3 w' w.heap.size (fun k_ => (w5.heap.size ≤ k_ ∧ k_ < w6.heap.size) ∧ ((True) ∧ k_ ≠ gx8)) (.slice A6_0 t9.length c6_0) t9 ∧ Kd.V (Kd.slice 3 (Kd.int .i64)) 39 w' w.heap.size (fun k_ => (w3.heap.size ≤ k_ ∧ k_ < w6.heap.size) ∧ ((True) ∧ k_ ≠ gx8)) (.slice A6_1 t10.length c6_1) t10 ∧ Kd.R (Kd.int .i64) 3 w' w.heap.size (fun k_ => (w8.heap.size ≤ k_ ∧ k_ < w9.heap.size) ∧ (True)) (.slice A9_0 t3.length c9_0) z88 ∧ Kd.S (Kd.slice 3 (Kd.int .i64)) 39 w' w.heap.size (fun k_ => (w8.heap.size ≤ k_ ∧ k_ < w9.heap.size) ∧ (some k_ ≠ (.slice A9_0 t3.length c9_0 : Value).ownBlock)) (.slice A9_1 t4.length c9_1) z89 ∧ Kd.R (Kd.int .i64) 3 w' w.heap.size (fun k_ => ((w9.heap.size + 1) ≤ k_ ∧ k_ < w10.heap.size) ∧ (True)) (.slice A10_0 t5.length c10_0) z99 ∧ Kd.S (Kd.slice 3 (Kd.int .i64)) 39 w' w.heap.size (fun k_ => ((w9.heap.size + 1) ≤ k_ ∧ k_ < w10.heap.size) ∧ (some k_ ≠ (.slice A10_0 t5.length c10_0 : Value).ownBlock)) (.slice A10_1 t6.length c10_1) z100 ∧ Kd.R (Kd.int .i64) 3 w' w.heap.size (fun k_ => ((w10.heap.size + 1) ≤ k_ ∧ k_ < w11.heap.size) ∧ (True)) (.slice A11_0 t9.length c11_0) z118 ∧ Kd.S (Kd.slice 3 (Kd.int .i64)) 39 w' w.heap.size (fun k_ => ((w10.heap.size + 1) ≤ k_ ∧ k_ < w11.heap.size) ∧ (some k_ ≠ (.slice A11_0 t9.length c11_0 : Value).ownBlock)) (.slice A11_1 t10.length c11_1) z119 ∧ Kd.R (Kd.int .i64) 3 w' w.heap.size (fun k_ => (w22.heap.size ≤ k_ ∧ k_ < s.1.heap.size) ∧ ((True) ∧ k_ ≠ s.2.2.2.2.2.2.2.2.2.2.2.2.2.2.2)) (.slice s.2.2.2.1 t3.length s.2.2.2.2.1) t3 ∧ Kd.S (Kd.slice 3 (Kd.int .i64)) 39 w' w.heap.size (fun k_ => (w22.heap.size ≤ k_ ∧ k_ < s.1.heap.size) ∧ ((some k_ ≠ (.slice s.2.2.2.1 t3.length s.2.2.2.2.1 : Value).ownBlock) ∧ k_ ≠ s.2.2.2.2.2.2.2.2.2.2.2.2.2.2.2)) (.slice s.2.2.2.2.2.1 t4.length s.2.2.2.2.2.2.1) t4 ∧ Kd.R (Kd.int .i64) 3 w' w.heap.size (fun k_ => (s.1.heap.size ≤ k_ ∧ k_ < s.2.1.heap.size) ∧ ((True) ∧ k_ ≠ s.2.2.2.2.2.2.2.2.2.2.2.2.2.2.2)) (.slice s.2.2.2.2.2.2.2.1 t5.length s.2.2.2.2.2.2.2.2.1) t5 ∧ Kd.S (Kd.slice 3 (Kd.int .i64)) 39 w' w.heap.size (fun k_ => (s.1.heap.size ≤ k_ ∧ k_ < s.2.1.heap.size) ∧ ((some k_ ≠ (.slice s.2.2.2.2.2.2.2.1 t5.length s.2.2.2.2.2.2.2.2.1 : Value).ownBlock) ∧ k_ ≠ s.2.2.2.2.2.2.2.2.2.2.2.2.2.2.2)) (.slice s.2.2.2.2.2.2.2.2.2.1 t6.length s.2.2.2.2.2.2.2.2.2.2.1) t6 ∧ Kd.R (Kd.int .i64) 3 w' w.heap.size (fun k_ => (s.2.1.heap.size ≤ k_ ∧ k_ < s.2.2.1.heap.size) ∧ ((True) ∧ k_ ≠ s.2.2.2.2.2.2.2.2.2.2.2.2.2.2.2)) (.slice s.2.2.2.2.2.2.2.2.2.2.2.1 t9.length s.2.2.2.2.2.2.2.2.2.2.2.2.1) t9 ∧ Kd.S (Kd.slice 3 (Kd.int .i64)) 39 w' w.heap.size (fun k_ => (s.2.1.heap.size ≤ k_ ∧ k_ < s.2.2.1.heap.size) ∧ ((some k_ ≠ (.slice s.2.2.2.2.2.2.2.2.2.2.2.1 t9.length s.2.2.2.2.2.2.2.2.2.2.2.2.1 : Value).ownBlock) ∧ k_ ≠ s.2.2.2.2.2.2.2.2.2.2.2.2.2.2.2)) (.slice s.2.2.2.2.2.2.2.2.2.2.2.2.2.1 t10.length s.2.2.2.2.2.2.2.2.2.2.2.2.2.2.1) t10 ∧ w'.heap[w.heap.size]? = some (.cells #[.slice A0_0 l0_0.length c0_0, .slice A0_1 l0_1.length c0_1] 42 (0, 0)) ∧ w'.heap[(w.heap.size + 1)]? = some (.cells #[.slice A1_0 l1_0.length c1_0, .slice A1_1 l1_1.length c1_1] 42 (0, 0)) ∧ w'.heap[gx8]? = some (.cells #[.slice A6_0 t9.length c6_0, .slice A6_1 t10.length c6_1] 44 (0, 0)) ∧ w'.heap[w9.heap.size]? = some (.cells #[.slice A9_0 t3.length c9_0, .slice A9_1 t4.length c9_1] 44 (0, 0)) ∧ w'.heap[w10.heap.size]? = some (.cells #[.slice A10_0 t5.length c10_0, .slice A10_1 t6.length c10_1] 44 (0, 0)) ∧ w'.heap[w11.heap.size]? = some (.cells #[.slice A11_0 t9.length c11_0, .slice A11_1 t10.length c11_1] 44 (0, 0))) ?_ ?_
 rotate_left
 ·intro hCont
  refine two_ (i := 1) (j := 8) (Ni := some 96) (Nj := some 15) #[true, true, true, false, false, false, false, false, false, false, false] #[true, false, true, false, false, false, false, false, true, false, false] rfl rfl rfl rfl (by kernel_rfl) (by decide) (by decide) (fun K hK => ?_) (fun K hK => ?_)
  ·skip
   refine goes_ Try.func21 (by kernel_rfl) rfl #[.agg #[.slice A0_0 l0_0.length c0_0, .slice A0_1 l0_1.length c0_1]] (by rfl) rfl rfl (by simp only [List.map_toArray, List.map_cons, List.map_nil]; rfl) ?_
   (with_reducible refine (laws_toRelation.calls k _ _ l0_0 _ _ l0_1 t3 t4 _ ?side1 ?side2 ?side3 ?side4 D2.out).mono ?_)
   (case side1 => exact Kd.C_below HR0_0.out (by repeat first | exact HB.out | apply below_alloc | apply pw_below_drewN | apply below_drew1))
   (case side2 => exact HC0_0.out)
   (case side3 => exact Kd.C_below HR0_1.out (by repeat first | exact HB.out | apply below_alloc | apply pw_below_drewN | apply below_drew1))
   (case side4 => exact HC0_1.out)
   rintro e w23 ⟨v23_0, v23_1, rfl, h0_, h1_, hb⟩
   (try refine ⟨_, rfl, ?_⟩)
   have hn := below_step (w := w22) (by repeat (first | exact Below.refl _ _ | (with_reducible first | apply below_alloc | apply pw_below_drewN | apply below_drew1))) hb
   have hs23 := below_size hn
   have hq := Aside0.mk (below_step (by repeat first | exact HB.out | apply below_alloc | apply pw_below_drewN | apply below_drew1) hb)
   have g23_0 := Aside0.mk (Kd.R_mono (ok' := (fun k_ => (w22.heap.size ≤ k_ ∧ k_ < w23.heap.size) ∧ (True))) (Kd.R_lower (Kd.R_bound h0_) (below_size (by repeat first | exact HB.out | apply below_alloc | apply pw_below_drewN | apply below_drew1))) (fun k_ hk_ => ⟨⟨Nat.le_trans (below_size (w := w22) (by repeat (first | exact Below.refl _ _ | (with_reducible first | apply below_alloc | apply pw_below_drewN | apply below_drew1)))) hk_.2.1, hk_.2.2.1⟩, hk_.1⟩))
   have g23_1 := Aside0.mk (Kd.S_mono (ok' := (fun k_ => (w22.heap.size ≤ k_ ∧ k_ < w23.heap.size) ∧ (some k_ ≠ (v23_0 : Value).ownBlock))) (Kd.S_lower (Kd.S_bound h1_) (below_size (by repeat first | exact HB.out | apply below_alloc | apply pw_below_drewN | apply below_drew1))) (fun k_ hk_ => ⟨⟨Nat.le_trans (below_size (w := w22) (by repeat (first | exact Below.refl _ _ | (with_reducible first | apply below_alloc | apply pw_below_drewN | apply below_drew1)))) hk_.2.1, hk_.2.2.1⟩, hk_.1⟩))
   have F174 := Aside0.mk (Kd.R_below F136.out hn)
   have F175 := Aside0.mk (Kd.V_below F137.out hn)
   have F176 := Aside0.mk (Kd.R_below F138.out hn)
   have F177 := Aside0.mk (Kd.S_below F139.out hn)
   have F178 := Aside0.mk (Kd.R_below F140.out hn)
   have F179 := Aside0.mk (Kd.S_below F141.out hn)
   have F180 := Aside0.mk (Kd.R_below F142.out hn)
   have F181 := Aside0.mk (Kd.S_below F143.out hn)
   have NBK0 := Aside0.mk (blk_below (g := w.heap.size) (o := .cells #[.slice A0_0 l0_0.length c0_0, .slice A0_1 l0_1.length c0_1] 42 (0, 0)) (by (with_reducible repeat (first | refine blk_drewN ?_ _ | refine blk_drew ?_ | refine blk_alloc ?_ _)); exact BK0.out) hb)
   have NBK1 := Aside0.mk (blk_below (g := (w.heap.size + 1)) (o := .cells #[.slice A1_0 l1_0.length c1_0, .slice A1_1 l1_1.length c1_1] 42 (0, 0)) (by (with_reducible repeat (first | refine blk_drewN ?_ _ | refine blk_drew ?_ | refine blk_alloc ?_ _)); exact BK1.out) hb)
   have NBK2 := Aside0.mk (blk_below (g := gx8) (o := .cells #[.slice A6_0 t9.length c6_0, .slice A6_1 t10.length c6_1] 44 (0, 0)) (by (with_reducible repeat (first | refine blk_drewN ?_ _ | refine blk_drew ?_ | refine blk_alloc ?_ _)); exact BK2.out) hb)
   have NBK3 := Aside0.mk (blk_below (g := w9.heap.size) (o := .cells #[.slice A9_0 t3.length c9_0, .slice A9_1 t4.length c9_1] 44 (0, 0)) (by (with_reducible repeat (first | refine blk_drewN ?_ _ | refine blk_drew ?_ | refine blk_alloc ?_ _)); exact BK3.out) hb)
   have NBK4 := Aside0.mk (blk_below (g := w10.heap.size) (o := .cells #[.slice A10_0 t5.length c10_0, .slice A10_1 t6.length c10_1] 44 (0, 0)) (by (with_reducible repeat (first | refine blk_drewN ?_ _ | refine blk_drew ?_ | refine blk_alloc ?_ _)); exact BK4.out) hb)
   have NBK5 := Aside0.mk (blk_below (g := w11.heap.size) (o := .cells #[.slice A11_0 t9.length c11_0, .slice A11_1 t10.length c11_1] 44 (0, 0)) (by (with_reducible repeat (first | refine blk_drewN ?_ _ | refine blk_drew ?_ | refine blk_alloc ?_ _)); exact BK5.out) hb)
   (try clear BK0)
   have BK0 := NBK0
   clear NBK0
   (try clear hlb0)
   have hlb0 : w.heap.size < w23.heap.size := blk_lt BK0.out
   (try clear BK1)
   have BK1 := NBK1
   clear NBK1
   (try clear hlb1)
   have hlb1 : (w.heap.size + 1) < w23.heap.size := blk_lt BK1.out
   (try clear BK2)
   have BK2 := NBK2
   clear NBK2
   (try clear hlb2)
   have hlb2 : gx8 < w23.heap.size := blk_lt BK2.out
   (try clear BK3)
   have BK3 := NBK3
   clear NBK3
   (try clear hlb3)
   have hlb3 : w9.heap.size < w23.heap.size := blk_lt BK3.out
   (try clear BK4)
   have BK4 := NBK4
   clear NBK4
   (try clear hlb4)
   have hlb4 : w10.heap.size < w23.heap.size := blk_lt BK4.out
   (try clear BK5)
   have BK5 := NBK5
   clear NBK5
   (try clear hlb5)
   have hlb5 : w11.heap.size < w23.heap.size := blk_lt BK5.out
   clear HB F136 F137 F138 F139 F140 F141 F142 F143
   have HB := hq
   clear hq hn hb h0_ h1_
   obtain ⟨A23_0, c23_0, eo⟩ := Kd.R_slice g23_0.out
   subst eo
   obtain ⟨A23_1, c23_1, eo⟩ := Kd.S_slice g23_1.out
   subst eo
   refine hK.out _ _ ⟨(blk_cell BK0.out 0).trans rfl, (blk_cell BK0.out 1).trans rfl, (blk_cell BK1.out 0).trans rfl, (blk_cell BK1.out 1).trans rfl⟩ (fun hHeld => ?_)
   clear hK K
   refine norm_ (a' := ?_) ?_ ?_
   rotate_left
   ·show Act.put _ (some 96) _ = _
    simp only [Act.put, List.setIfInBounds_toArray, List.set_cons_zero, List.set_cons_succ, i64_w, i32_w]
    rfl
   refine two_ (i := 3) (j := 8) (Ni := some 98) (Nj := some 15) #[true, true, true, true, false, false, false, false, false, false, false] #[true, true, true, false, false, false, false, false, true, false, false] rfl rfl rfl rfl (by kernel_rfl) (by decide) (by decide) (fun K hK => ?_) (fun K hK => ?_)
   ·skip
    refine goes_ Try.func21 (by kernel_rfl) rfl #[.agg #[.slice A1_0 l1_0.length c1_0, .slice A1_1 l1_1.length c1_1]] (by rfl) rfl rfl (by simp only [List.map_toArray, List.map_cons, List.map_nil]; rfl) ?_
    (with_reducible refine (laws_toRelation.calls k _ _ l1_0 _ _ l1_1 t5 t6 _ ?side1 ?side2 ?side3 ?side4 D3.out).mono ?_)
    (case side1 => exact Kd.C_below HR1_0.out (by repeat first | exact HB.out | apply below_alloc | apply pw_below_drewN | apply below_drew1))
    (case side2 => exact HC1_0.out)
    (case side3 => exact Kd.C_below HR1_1.out (by repeat first | exact HB.out | apply below_alloc | apply pw_below_drewN | apply below_drew1))
    (case side4 => exact HC1_1.out)
    rintro e w24 ⟨v24_0, v24_1, rfl, h0_, h1_, hb⟩
    (try refine ⟨_, rfl, ?_⟩)
    have hn := below_step (w := w23) (by repeat (first | exact Below.refl _ _ | (with_reducible first | apply below_alloc | apply pw_below_drewN | apply below_drew1))) hb
    have hs24 := below_size hn
    have hq := Aside0.mk (below_step (by repeat first | exact HB.out | apply below_alloc | apply pw_below_drewN | apply below_drew1) hb)
    have g24_0 := Aside0.mk (Kd.R_mono (ok' := (fun k_ => (w23.heap.size ≤ k_ ∧ k_ < w24.heap.size) ∧ (True))) (Kd.R_lower (Kd.R_bound h0_) (below_size (by repeat first | exact HB.out | apply below_alloc | apply pw_below_drewN | apply below_drew1))) (fun k_ hk_ => ⟨⟨Nat.le_trans (below_size (w := w23) (by repeat (first | exact Below.refl _ _ | (with_reducible first | apply below_alloc | apply pw_below_drewN | apply below_drew1)))) hk_.2.1, hk_.2.2.1⟩, hk_.1⟩))
    have g24_1 := Aside0.mk (Kd.S_mono (ok' := (fun k_ => (w23.heap.size ≤ k_ ∧ k_ < w24.heap.size) ∧ (some k_ ≠ (v24_0 : Value).ownBlock))) (Kd.S_lower (Kd.S_bound h1_) (below_size (by repeat first | exact HB.out | apply below_alloc | apply pw_below_drewN | apply below_drew1))) (fun k_ hk_ => ⟨⟨Nat.le_trans (below_size (w := w23) (by repeat (first | exact Below.refl _ _ | (with_reducible first | apply below_alloc | apply pw_below_drewN | apply below_drew1)))) hk_.2.1, hk_.2.2.1⟩, hk_.1⟩))
    have F182 := Aside0.mk (Kd.R_below F174.out hn)
    have F183 := Aside0.mk (Kd.V_below F175.out hn)
    have F184 := Aside0.mk (Kd.R_below F176.out hn)
    have F185 := Aside0.mk (Kd.S_below F177.out hn)
    have F186 := Aside0.mk (Kd.R_below F178.out hn)
    have F187 := Aside0.mk (Kd.S_below F179.out hn)
    have F188 := Aside0.mk (Kd.R_below F180.out hn)
    have F189 := Aside0.mk (Kd.S_below F181.out hn)
    have F190 := Aside0.mk (Kd.R_below g23_0.out hn)
    have F191 := Aside0.mk (Kd.S_below g23_1.out hn)
    have NBK0 := Aside0.mk (blk_below (g := w.heap.size) (o := .cells #[.slice A0_0 l0_0.length c0_0, .slice A0_1 l0_1.length c0_1] 42 (0, 0)) (by (with_reducible repeat (first | refine blk_drewN ?_ _ | refine blk_drew ?_ | refine blk_alloc ?_ _)); exact BK0.out) hb)
    have NBK1 := Aside0.mk (blk_below (g := (w.heap.size + 1)) (o := .cells #[.slice A1_0 l1_0.length c1_0, .slice A1_1 l1_1.length c1_1] 42 (0, 0)) (by (with_reducible repeat (first | refine blk_drewN ?_ _ | refine blk_drew ?_ | refine blk_alloc ?_ _)); exact BK1.out) hb)
    have NBK2 := Aside0.mk (blk_below (g := gx8) (o := .cells #[.slice A6_0 t9.length c6_0, .slice A6_1 t10.length c6_1] 44 (0, 0)) (by (with_reducible repeat (first | refine blk_drewN ?_ _ | refine blk_drew ?_ | refine blk_alloc ?_ _)); exact BK2.out) hb)
    have NBK3 := Aside0.mk (blk_below (g := w9.heap.size) (o := .cells #[.slice A9_0 t3.length c9_0, .slice A9_1 t4.length c9_1] 44 (0, 0)) (by (with_reducible repeat (first | refine blk_drewN ?_ _ | refine blk_drew ?_ | refine blk_alloc ?_ _)); exact BK3.out) hb)
    have NBK4 := Aside0.mk (blk_below (g := w10.heap.size) (o := .cells #[.slice A10_0 t5.length c10_0, .slice A10_1 t6.length c10_1] 44 (0, 0)) (by (with_reducible repeat (first | refine blk_drewN ?_ _ | refine blk_drew ?_ | refine blk_alloc ?_ _)); exact BK4.out) hb)
    have NBK5 := Aside0.mk (blk_below (g := w11.heap.size) (o := .cells #[.slice A11_0 t9.length c11_0, .slice A11_1 t10.length c11_1] 44 (0, 0)) (by (with_reducible repeat (first | refine blk_drewN ?_ _ | refine blk_drew ?_ | refine blk_alloc ?_ _)); exact BK5.out) hb)
    (try clear BK0)
    have BK0 := NBK0
    clear NBK0
    (try clear hlb0)
    have hlb0 : w.heap.size < w24.heap.size := blk_lt BK0.out
    (try clear BK1)
    have BK1 := NBK1
    clear NBK1
    (try clear hlb1)
    have hlb1 : (w.heap.size + 1) < w24.heap.size := blk_lt BK1.out
    (try clear BK2)
    have BK2 := NBK2
    clear NBK2
    (try clear hlb2)
    have hlb2 : gx8 < w24.heap.size := blk_lt BK2.out
    (try clear BK3)
    have BK3 := NBK3
    clear NBK3
    (try clear hlb3)
    have hlb3 : w9.heap.size < w24.heap.size := blk_lt BK3.out
    (try clear BK4)
    have BK4 := NBK4
    clear NBK4
    (try clear hlb4)
    have hlb4 : w10.heap.size < w24.heap.size := blk_lt BK4.out
    (try clear BK5)
    have BK5 := NBK5
    clear NBK5
    (try clear hlb5)
    have hlb5 : w11.heap.size < w24.heap.size := blk_lt BK5.out
    clear HB F174 F175 F176 F177 F178 F179 F180 F181 g23_0 g23_1
    have HB := hq
    clear hq hn hb h0_ h1_
    obtain ⟨A24_0, c24_0, eo⟩ := Kd.R_slice g24_0.out
    subst eo
    obtain ⟨A24_1, c24_1, eo⟩ := Kd.S_slice g24_1.out
    subst eo
    refine hK.out _ _ ⟨(blk_cell BK0.out 0).trans rfl, (blk_cell BK0.out 1).trans rfl, (blk_cell BK1.out 0).trans rfl, (blk_cell BK1.out 1).trans rfl⟩ (fun hHeld => ?_)
    clear hK K
    refine norm_ (a' := ?_) ?_ ?_
    rotate_left
    ·show Act.put _ (some 98) _ = _
     simp only [Act.put, List.setIfInBounds_toArray, List.set_cons_zero, List.set_cons_succ, i64_w, i32_w]
     rfl
    refine two_ (i := 4) (j := 8) (Ni := some 99) (Nj := some 15) #[true, true, true, true, true, false, false, false, false, false, false] #[true, true, true, true, false, false, false, false, true, false, false] rfl rfl rfl rfl (by kernel_rfl) (by decide) (by decide) (fun K hK => ?_) (fun K hK => ?_)
    ·skip
     refine goes_ Try.func27 (by kernel_rfl) rfl #[.agg #[.slice A23_0 t3.length c23_0, .slice A23_1 t4.length c23_1], .agg #[.slice A24_0 t5.length c24_0, .slice A24_1 t6.length c24_1]] (by rfl) rfl rfl (by simp only [List.map_toArray, List.map_cons, List.map_nil]; rfl) ?_
     (with_reducible refine (impl_WithoutOf.calls k _ _ t3 _ _ t4 _ _ t5 _ _ t6 t9 t10 t11 _ ?side1 ?side2 ?side3 ?side4 ?side5 ?side6 ?side7 ?side8 D5.out).mono ?_)
     (case side1 => repeat (first | exact (Kd.R_reads' F190.out).2.2 | (with_reducible refine Kd.C_alloc ?_ _) | (with_reducible refine Kd.C_drewN ?_ _) | (with_reducible refine Kd.C_drew ?_)))
     (case side2 => exact (Kd.R_reads' F190.out).2.1)
     (case side3 => repeat (first | exact (Kd.S_reads' F191.out).2.2 | (with_reducible refine Kd.C_alloc ?_ _) | (with_reducible refine Kd.C_drewN ?_ _) | (with_reducible refine Kd.C_drew ?_)))
     (case side4 => exact (Kd.S_reads' F191.out).2.1)
     (case side5 => repeat (first | exact (Kd.R_reads' g24_0.out).2.2 | (with_reducible refine Kd.C_alloc ?_ _) | (with_reducible refine Kd.C_drewN ?_ _) | (with_reducible refine Kd.C_drew ?_)))
     (case side6 => exact (Kd.R_reads' g24_0.out).2.1)
     (case side7 => repeat (first | exact (Kd.S_reads' g24_1.out).2.2 | (with_reducible refine Kd.C_alloc ?_ _) | (with_reducible refine Kd.C_drewN ?_ _) | (with_reducible refine Kd.C_drew ?_)))
     (case side8 => exact (Kd.S_reads' g24_1.out).2.1)
     rintro e w25 ⟨v25_0, v25_1, rfl, h0_, h1_, hb⟩
     (try refine ⟨_, rfl, ?_⟩)
     have hn := below_step (w := w24) (by repeat (first | exact Below.refl _ _ | (with_reducible first | apply below_alloc | apply pw_below_drewN | apply below_drew1))) hb
     have hs25 := below_size hn
     have hq := Aside0.mk (below_step (by repeat first | exact HB.out | apply below_alloc | apply pw_below_drewN | apply below_drew1) hb)
     have g25_0 := Aside0.mk (Kd.R_mono (ok' := (fun k_ => (w24.heap.size ≤ k_ ∧ k_ < w25.heap.size) ∧ (True))) (Kd.R_lower (Kd.R_bound h0_) (below_size (by repeat first | exact HB.out | apply below_alloc | apply pw_below_drewN | apply below_drew1))) (fun k_ hk_ => ⟨⟨Nat.le_trans (below_size (w := w24) (by repeat (first | exact Below.refl _ _ | (with_reducible first | apply below_alloc | apply pw_below_drewN | apply below_drew1)))) hk_.2.1, hk_.2.2.1⟩, hk_.1⟩))
     have g25_1 := Aside0.mk (Kd.S_mono (ok' := (fun k_ => (w24.heap.size ≤ k_ ∧ k_ < w25.heap.size) ∧ (some k_ ≠ (v25_0 : Value).ownBlock))) (Kd.S_lower (Kd.S_bound h1_) (below_size (by repeat first | exact HB.out | apply below_alloc | apply pw_below_drewN | apply below_drew1))) (fun k_ hk_ => ⟨⟨Nat.le_trans (below_size (w := w24) (by repeat (first | exact Below.refl _ _ | (with_reducible first | apply below_alloc | apply pw_below_drewN | apply below_drew1)))) hk_.2.1, hk_.2.2.1⟩, hk_.1⟩))
     have F192 := Aside0.mk (Kd.R_below F182.out hn)
     have F193 := Aside0.mk (Kd.V_below F183.out hn)
     have F194 := Aside0.mk (Kd.R_below F184.out hn)
     have F195 := Aside0.mk (Kd.S_below F185.out hn)
     have F196 := Aside0.mk (Kd.R_below F186.out hn)
     have F197 := Aside0.mk (Kd.S_below F187.out hn)
     have F198 := Aside0.mk (Kd.R_below F188.out hn)
     have F199 := Aside0.mk (Kd.S_below F189.out hn)
     have F200 := Aside0.mk (Kd.R_below F190.out hn)
     have F201 := Aside0.mk (Kd.S_below F191.out hn)
     have F202 := Aside0.mk (Kd.R_below g24_0.out hn)
     have F203 := Aside0.mk (Kd.S_below g24_1.out hn)
     have NBK0 := Aside0.mk (blk_below (g := w.heap.size) (o := .cells #[.slice A0_0 l0_0.length c0_0, .slice A0_1 l0_1.length c0_1] 42 (0, 0)) (by (with_reducible repeat (first | refine blk_drewN ?_ _ | refine blk_drew ?_ | refine blk_alloc ?_ _)); exact BK0.out) hb)
     have NBK1 := Aside0.mk (blk_below (g := (w.heap.size + 1)) (o := .cells #[.slice A1_0 l1_0.length c1_0, .slice A1_1 l1_1.length c1_1] 42 (0, 0)) (by (with_reducible repeat (first | refine blk_drewN ?_ _ | refine blk_drew ?_ | refine blk_alloc ?_ _)); exact BK1.out) hb)
     have NBK2 := Aside0.mk (blk_below (g := gx8) (o := .cells #[.slice A6_0 t9.length c6_0, .slice A6_1 t10.length c6_1] 44 (0, 0)) (by (with_reducible repeat (first | refine blk_drewN ?_ _ | refine blk_drew ?_ | refine blk_alloc ?_ _)); exact BK2.out) hb)
     have NBK3 := Aside0.mk (blk_below (g := w9.heap.size) (o := .cells #[.slice A9_0 t3.length c9_0, .slice A9_1 t4.length c9_1] 44 (0, 0)) (by (with_reducible repeat (first | refine blk_drewN ?_ _ | refine blk_drew ?_ | refine blk_alloc ?_ _)); exact BK3.out) hb)
     have NBK4 := Aside0.mk (blk_below (g := w10.heap.size) (o := .cells #[.slice A10_0 t5.length c10_0, .slice A10_1 t6.length c10_1] 44 (0, 0)) (by (with_reducible repeat (first | refine blk_drewN ?_ _ | refine blk_drew ?_ | refine blk_alloc ?_ _)); exact BK4.out) hb)
     have NBK5 := Aside0.mk (blk_below (g := w11.heap.size) (o := .cells #[.slice A11_0 t9.length c11_0, .slice A11_1 t10.length c11_1] 44 (0, 0)) (by (with_reducible repeat (first | refine blk_drewN ?_ _ | refine blk_drew ?_ | refine blk_alloc ?_ _)); exact BK5.out) hb)
     (try clear BK0)
     have BK0 := NBK0
     clear NBK0
     (try clear hlb0)
     have hlb0 : w.heap.size < w25.heap.size := blk_lt BK0.out
     (try clear BK1)
     have BK1 := NBK1
     clear NBK1
     (try clear hlb1)
     have hlb1 : (w.heap.size + 1) < w25.heap.size := blk_lt BK1.out
     (try clear BK2)
     have BK2 := NBK2
     clear NBK2
     (try clear hlb2)
     have hlb2 : gx8 < w25.heap.size := blk_lt BK2.out
     (try clear BK3)
     have BK3 := NBK3
     clear NBK3
     (try clear hlb3)
     have hlb3 : w9.heap.size < w25.heap.size := blk_lt BK3.out
     (try clear BK4)
     have BK4 := NBK4
     clear NBK4
     (try clear hlb4)
     have hlb4 : w10.heap.size < w25.heap.size := blk_lt BK4.out
     (try clear BK5)
     have BK5 := NBK5
     clear NBK5
     (try clear hlb5)
     have hlb5 : w11.heap.size < w25.heap.size := blk_lt BK5.out
     clear HB F182 F183 F184 F185 F186 F187 F188 F189 F190 F191 g24_0 g24_1
     have HB := hq
     clear hq hn hb h0_ h1_
     obtain ⟨A25_0, c25_0, eo⟩ := Kd.R_slice g25_0.out
     subst eo
     obtain ⟨A25_1, c25_1, eo⟩ := Kd.S_slice g25_1.out
     subst eo
     refine hK.out _ _ ⟨(blk_cell BK0.out 0).trans rfl, (blk_cell BK0.out 1).trans rfl, (blk_cell BK1.out 0).trans rfl, (blk_cell BK1.out 1).trans rfl⟩ (fun hHeld => ?_)
     clear hK K
     refine norm_ (a' := ?_) ?_ ?_
     rotate_left
     ·show Act.put _ (some 99) _ = _
      simp only [Act.put, List.setIfInBounds_toArray, List.set_cons_zero, List.set_cons_succ, i64_w, i32_w]
      rfl
     refine pure_ (i := 5) (N := some 94) (v := ?_) (a' := ?_) #[true, true, true, true, true, true, false, false, false, false, false] rfl rfl (by kernel_rfl) (fun _ _ _ h => h) (Or.inl ⟨by rfl, ?_⟩) ?_ ?_
     rotate_left
     ·intro w'
      go_simp
      with_reducible rfl
     rotate_left
     ·simp only [Act.put, List.setIfInBounds_toArray, List.set_cons_zero, List.set_cons_succ, i64_w, i32_w]
      rfl
     refine pure_ (i := 6) (N := some 100) (v := ?_) (a' := ?_) #[true, true, true, true, true, true, true, false, false, false, false] rfl rfl (by kernel_rfl) (fun _ _ _ h => h) (Or.inl ⟨by rfl, ?_⟩) ?_ ?_
     rotate_left
     ·intro w'
      go_simp
      with_reducible rfl
     rotate_left
     ·simp only [Act.put, List.setIfInBounds_toArray, List.set_cons_zero, List.set_cons_succ, i64_w, i32_w]
      rfl
     refine pure_ (i := 7) (N := some 101) (v := ?_) (a' := ?_) #[true, true, true, true, true, true, true, true, false, false, false] rfl rfl (by kernel_rfl) (fun _ _ _ h => h) (Or.inl ⟨by rfl, ?_⟩) ?_ ?_
     rotate_left
     ·intro w'
      go_simp
      with_reducible rfl
     rotate_left
     ·simp only [Act.put, List.setIfInBounds_toArray, List.set_cons_zero, List.set_cons_succ, i64_w, i32_w]
      rfl
     refine one_ (i := 8) (N := some 15) #[true, true, true, true, true, true, true, true, true, false, false] rfl rfl (by kernel_rfl) (by decide) (fun K hK => ?_)
     refine value_ (w1 := ?_) (v := ?_) (by rfl) rfl ?_ ?_
     rotate_left 2
     ·go_simp
      constructor
      ·rfl
      ·rfl
     refine hK.out _ _ ⟨(blk_cell (blk_alloc BK0.out _) 0).trans rfl, (blk_cell (blk_alloc BK0.out _) 1).trans rfl, (blk_cell (blk_alloc BK1.out _) 0).trans rfl, (blk_cell (blk_alloc BK1.out _) 1).trans rfl⟩ (fun hHeld => ?_)
     clear hK K
     refine norm_ (a' := ?_) ?_ ?_
     rotate_left
     ·show Act.put _ (some 15) _ = _
      simp only [Act.put, List.setIfInBounds_toArray, List.set_cons_zero, List.set_cons_succ, i64_w, i32_w]
      rfl
     exact norm_ (by simp only [putAll, Act.put, List.setIfInBounds_toArray, List.set_cons_zero, List.set_cons_succ]) (hCont (w23, w24, w25, A23_0, c23_0, A23_1, c23_1, A24_0, c24_0, A24_1, c24_1, A25_0, c25_0, A25_1, c25_1, w25.heap.size) _ (by dsimp only; exact ⟨hs23, hs24, hs25, (by first | exact Nat.le_refl _ | (simp; done) | (simp; omega)), (by omega), (by first | omega | (simp; done) | (simp; omega)), (heap_alloc_new _ _), (by repeat first | exact HB.out | apply below_alloc | apply pw_below_drewN | apply below_drew1), (Kd.R_alloc F192.out _), (Kd.V_alloc F193.out _), (Kd.R_alloc F194.out _), (Kd.S_alloc F195.out _), (Kd.R_alloc F196.out _), (Kd.S_alloc F197.out _), (Kd.R_alloc F198.out _), (Kd.S_alloc F199.out _), (Kd.R_mono (Kd.R_alloc F200.out _) (fun k_ hk_ => ⟨hk_.1, hk_.2, by have z_ := hk_.1; omega⟩)), (Kd.S_mono (Kd.S_alloc F201.out _) (fun k_ hk_ => ⟨hk_.1, hk_.2, by have z_ := hk_.1; omega⟩)), (Kd.R_mono (Kd.R_alloc F202.out _) (fun k_ hk_ => ⟨hk_.1, hk_.2, by have z_ := hk_.1; omega⟩)), (Kd.S_mono (Kd.S_alloc F203.out _) (fun k_ hk_ => ⟨hk_.1, hk_.2, by have z_ := hk_.1; omega⟩)), (Kd.R_mono (Kd.R_alloc g25_0.out _) (fun k_ hk_ => ⟨hk_.1, hk_.2, by have z_ := hk_.1; omega⟩)), (Kd.S_mono (Kd.S_alloc g25_1.out _) (fun k_ hk_ => ⟨hk_.1, hk_.2, by have z_ := hk_.1; omega⟩)), (blk_alloc BK0.out _), (blk_alloc BK1.out _), (blk_alloc BK2.out _), (blk_alloc BK3.out _), (blk_alloc BK4.out _), (blk_alloc BK5.out _)⟩))
    ·skip
     refine value_ (w1 := ?_) (v := ?_) (by rfl) rfl ?_ ?_
     rotate_left 2
     ·go_simp
      constructor
      ·rfl
      ·rfl
     refine hK.out _ _ ⟨(blk_cell (blk_alloc BK0.out _) 0).trans rfl, (blk_cell (blk_alloc BK0.out _) 1).trans rfl, (blk_cell (blk_alloc BK1.out _) 0).trans rfl, (blk_cell (blk_alloc BK1.out _) 1).trans rfl⟩ (fun hHeld => ?_)
     clear hK K
     refine norm_ (a' := ?_) ?_ ?_
     rotate_left
     ·show Act.put _ (some 15) _ = _
      simp only [Act.put, List.setIfInBounds_toArray, List.set_cons_zero, List.set_cons_succ, i64_w, i32_w]
      rfl
     refine one_ (i := 4) (N := some 99) #[true, true, true, true, true, false, false, false, true, false, false] rfl rfl (by kernel_rfl) (by decide) (fun K hK => ?_)
     refine goes_ Try.func27 (by kernel_rfl) rfl #[.agg #[.slice A23_0 t3.length c23_0, .slice A23_1 t4.length c23_1], .agg #[.slice A24_0 t5.length c24_0, .slice A24_1 t6.length c24_1]] (by rfl) rfl rfl (by simp only [List.map_toArray, List.map_cons, List.map_nil]; rfl) ?_
     (with_reducible refine (impl_WithoutOf.calls k _ _ t3 _ _ t4 _ _ t5 _ _ t6 t9 t10 t11 _ ?side1 ?side2 ?side3 ?side4 ?side5 ?side6 ?side7 ?side8 D5.out).mono ?_)
     (case side1 => repeat (first | exact (Kd.R_reads' F190.out).2.2 | (with_reducible refine Kd.C_alloc ?_ _) | (with_reducible refine Kd.C_drewN ?_ _) | (with_reducible refine Kd.C_drew ?_)))
     (case side2 => exact (Kd.R_reads' F190.out).2.1)
     (case side3 => repeat (first | exact (Kd.S_reads' F191.out).2.2 | (with_reducible refine Kd.C_alloc ?_ _) | (with_reducible refine Kd.C_drewN ?_ _) | (with_reducible refine Kd.C_drew ?_)))
     (case side4 => exact (Kd.S_reads' F191.out).2.1)
     (case side5 => repeat (first | exact (Kd.R_reads' g24_0.out).2.2 | (with_reducible refine Kd.C_alloc ?_ _) | (with_reducible refine Kd.C_drewN ?_ _) | (with_reducible refine Kd.C_drew ?_)))
     (case side6 => exact (Kd.R_reads' g24_0.out).2.1)
     (case side7 => repeat (first | exact (Kd.S_reads' g24_1.out).2.2 | (with_reducible refine Kd.C_alloc ?_ _) | (with_reducible refine Kd.C_drewN ?_ _) | (with_reducible refine Kd.C_drew ?_)))
     (case side8 => exact (Kd.S_reads' g24_1.out).2.1)
     rintro e w25 ⟨v25_0, v25_1, rfl, h0_, h1_, hb⟩
     (try refine ⟨_, rfl, ?_⟩)
     have hp25 : (w24.heap.size + 1) ≤ _ := Nat.le_trans (by first | exact Nat.le_refl _ | (simp; done) | (simp; omega)) hb.size
     have hq25 : (w24.heap.size + 1) ≤ w25.heap.size := hp25
     have hn := below_step (w := w24) (by repeat (first | exact Below.refl _ _ | (with_reducible first | apply below_alloc | apply pw_below_drewN | apply below_drew1))) hb
     have hs25 := below_size hn
     have hq := Aside0.mk (below_step (by repeat first | exact HB.out | apply below_alloc | apply pw_below_drewN | apply below_drew1) hb)
     have g25_0 := Aside0.mk (Kd.R_mono (ok' := (fun k_ => ((w24.heap.size + 1) ≤ k_ ∧ k_ < w25.heap.size) ∧ ((True) ∧ k_ ≠ w24.heap.size))) (Kd.R_lower (Kd.R_bound h0_) (below_size (by repeat first | exact HB.out | apply below_alloc | apply pw_below_drewN | apply below_drew1))) (fun k_ hk_ => ⟨⟨Nat.le_trans (by first | exact Nat.le_refl _ | (simp; done) | (simp; omega) : (w24.heap.size + 1) ≤ _) hk_.2.1, hk_.2.2.1⟩, ⟨hk_.1, by have z_ : (w24.heap.size + 1) ≤ k_ := Nat.le_trans (by first | exact Nat.le_refl _ | (simp; done) | (simp; omega) : (w24.heap.size + 1) ≤ _) hk_.2.1; omega⟩⟩))
     have g25_1 := Aside0.mk (Kd.S_mono (ok' := (fun k_ => ((w24.heap.size + 1) ≤ k_ ∧ k_ < w25.heap.size) ∧ ((some k_ ≠ (v25_0 : Value).ownBlock) ∧ k_ ≠ w24.heap.size))) (Kd.S_lower (Kd.S_bound h1_) (below_size (by repeat first | exact HB.out | apply below_alloc | apply pw_below_drewN | apply below_drew1))) (fun k_ hk_ => ⟨⟨Nat.le_trans (by first | exact Nat.le_refl _ | (simp; done) | (simp; omega) : (w24.heap.size + 1) ≤ _) hk_.2.1, hk_.2.2.1⟩, ⟨hk_.1, by have z_ : (w24.heap.size + 1) ≤ k_ := Nat.le_trans (by first | exact Nat.le_refl _ | (simp; done) | (simp; omega) : (w24.heap.size + 1) ≤ _) hk_.2.1; omega⟩⟩))
     have F192 := Aside0.mk (Kd.R_below F182.out hn)
     have F193 := Aside0.mk (Kd.V_below F183.out hn)
     have F194 := Aside0.mk (Kd.R_below F184.out hn)
     have F195 := Aside0.mk (Kd.S_below F185.out hn)
     have F196 := Aside0.mk (Kd.R_below F186.out hn)
     have F197 := Aside0.mk (Kd.S_below F187.out hn)
     have F198 := Aside0.mk (Kd.R_below F188.out hn)
     have F199 := Aside0.mk (Kd.S_below F189.out hn)
     have F200 := Aside0.mk (Kd.R_below F190.out hn)
     have F201 := Aside0.mk (Kd.S_below F191.out hn)
     have F202 := Aside0.mk (Kd.R_below g24_0.out hn)
     have F203 := Aside0.mk (Kd.S_below g24_1.out hn)
     have NBK0 := Aside0.mk (blk_below (g := w.heap.size) (o := .cells #[.slice A0_0 l0_0.length c0_0, .slice A0_1 l0_1.length c0_1] 42 (0, 0)) (by (with_reducible repeat (first | refine blk_drewN ?_ _ | refine blk_drew ?_ | refine blk_alloc ?_ _)); exact BK0.out) hb)
     have NBK1 := Aside0.mk (blk_below (g := (w.heap.size + 1)) (o := .cells #[.slice A1_0 l1_0.length c1_0, .slice A1_1 l1_1.length c1_1] 42 (0, 0)) (by (with_reducible repeat (first | refine blk_drewN ?_ _ | refine blk_drew ?_ | refine blk_alloc ?_ _)); exact BK1.out) hb)
     have NBK2 := Aside0.mk (blk_below (g := gx8) (o := .cells #[.slice A6_0 t9.length c6_0, .slice A6_1 t10.length c6_1] 44 (0, 0)) (by (with_reducible repeat (first | refine blk_drewN ?_ _ | refine blk_drew ?_ | refine blk_alloc ?_ _)); exact BK2.out) hb)
     have NBK3 := Aside0.mk (blk_below (g := w9.heap.size) (o := .cells #[.slice A9_0 t3.length c9_0, .slice A9_1 t4.length c9_1] 44 (0, 0)) (by (with_reducible repeat (first | refine blk_drewN ?_ _ | refine blk_drew ?_ | refine blk_alloc ?_ _)); exact BK3.out) hb)
     have NBK4 := Aside0.mk (blk_below (g := w10.heap.size) (o := .cells #[.slice A10_0 t5.length c10_0, .slice A10_1 t6.length c10_1] 44 (0, 0)) (by (with_reducible repeat (first | refine blk_drewN ?_ _ | refine blk_drew ?_ | refine blk_alloc ?_ _)); exact BK4.out) hb)
     have NBK5 := Aside0.mk (blk_below (g := w11.heap.size) (o := .cells #[.slice A11_0 t9.length c11_0, .slice A11_1 t10.length c11_1] 44 (0, 0)) (by (with_reducible repeat (first | refine blk_drewN ?_ _ | refine blk_drew ?_ | refine blk_alloc ?_ _)); exact BK5.out) hb)
     have NBK6 := Aside0.mk (blk_below (g := w24.heap.size) (o := .cells #[.slice none 0 0, .slice none 0 0] 44 (0, 0)) (by first | exact heap_alloc_new _ _ | exact blk_drewN (heap_alloc_new _ _) _ | exact blk_drew (heap_alloc_new _ _) | (have h_ := heap_alloc_new w24 (.cells #[.slice none 0 0, .slice none 0 0] 44); simpa using h_)) hb)
     (try clear BK0)
     have BK0 := NBK0
     clear NBK0
     (try clear hlb0)
     have hlb0 : w.heap.size < w25.heap.size := blk_lt BK0.out
     (try clear BK1)
     have BK1 := NBK1
     clear NBK1
     (try clear hlb1)
     have hlb1 : (w.heap.size + 1) < w25.heap.size := blk_lt BK1.out
     (try clear BK2)
     have BK2 := NBK2
     clear NBK2
     (try clear hlb2)
     have hlb2 : gx8 < w25.heap.size := blk_lt BK2.out
     (try clear BK3)
     have BK3 := NBK3
     clear NBK3
     (try clear hlb3)
     have hlb3 : w9.heap.size < w25.heap.size := blk_lt BK3.out
     (try clear BK4)
     have BK4 := NBK4
     clear NBK4
     (try clear hlb4)
     have hlb4 : w10.heap.size < w25.heap.size := blk_lt BK4.out
     (try clear BK5)
     have BK5 := NBK5
     clear NBK5
     (try clear hlb5)
     have hlb5 : w11.heap.size < w25.heap.size := blk_lt BK5.out
     (try clear BK6)
     have BK6 := NBK6
     clear NBK6
     (try clear hlb6)
     have hlb6 : w24.heap.size < w25.heap.size := blk_lt BK6.out
     clear HB F182 F183 F184 F185 F186 F187 F188 F189 F190 F191 g24_0 g24_1
     have HB := hq
     clear hq hn hb h0_ h1_
     obtain ⟨A25_0, c25_0, eo⟩ := Kd.R_slice g25_0.out
     subst eo
     obtain ⟨A25_1, c25_1, eo⟩ := Kd.S_slice g25_1.out
     subst eo
     refine hK.out _ _ ⟨(blk_cell BK0.out 0).trans rfl, (blk_cell BK0.out 1).trans rfl, (blk_cell BK1.out 0).trans rfl, (blk_cell BK1.out 1).trans rfl⟩ (fun hHeld => ?_)
     clear hK K
     refine norm_ (a' := ?_) ?_ ?_
     rotate_left
     ·show Act.put _ (some 99) _ = _
      simp only [Act.put, List.setIfInBounds_toArray, List.set_cons_zero, List.set_cons_succ, i64_w, i32_w]
      rfl
     refine pure_ (i := 5) (N := some 94) (v := ?_) (a' := ?_) #[true, true, true, true, true, true, false, false, true, false, false] rfl rfl (by kernel_rfl) (fun _ _ _ h => h) (Or.inl ⟨by rfl, ?_⟩) ?_ ?_
     rotate_left
     ·intro w'
      go_simp
      with_reducible rfl
     rotate_left
     ·simp only [Act.put, List.setIfInBounds_toArray, List.set_cons_zero, List.set_cons_succ, i64_w, i32_w]
      rfl
     refine pure_ (i := 6) (N := some 100) (v := ?_) (a' := ?_) #[true, true, true, true, true, true, true, false, true, false, false] rfl rfl (by kernel_rfl) (fun _ _ _ h => h) (Or.inl ⟨by rfl, ?_⟩) ?_ ?_
     rotate_left
     ·intro w'
      go_simp
      with_reducible rfl
     rotate_left
     ·simp only [Act.put, List.setIfInBounds_toArray, List.set_cons_zero, List.set_cons_succ, i64_w, i32_w]
      rfl
     refine pure_ (i := 7) (N := some 101) (v := ?_) (a' := ?_) #[true, true, true, true, true, true, true, true, true, false, false] rfl rfl (by kernel_rfl) (fun _ _ _ h => h) (Or.inl ⟨by rfl, ?_⟩) ?_ ?_
     rotate_left
     ·intro w'
      go_simp
      with_reducible rfl
     rotate_left
     ·simp only [Act.put, List.setIfInBounds_toArray, List.set_cons_zero, List.set_cons_succ, i64_w, i32_w]
      rfl
     exact norm_ (by simp only [putAll, Act.put, List.setIfInBounds_toArray, List.set_cons_zero, List.set_cons_succ]) (hCont (w23, w24, w25, A23_0, c23_0, A23_1, c23_1, A24_0, c24_0, A24_1, c24_1, A25_0, c25_0, A25_1, c25_1, w24.heap.size) _ (by dsimp only; exact ⟨hs23, hs24, hs25, (by first | exact Nat.le_refl _ | (simp; done) | (simp; omega)), (by omega), (by first | omega | (simp; done) | (simp; omega)), BK6.out, (by repeat first | exact HB.out | apply below_alloc | apply pw_below_drewN | apply below_drew1), F192.out, F193.out, F194.out, F195.out, F196.out, F197.out, F198.out, F199.out, (Kd.R_mono F200.out (fun k_ hk_ => ⟨⟨by have z_ := hk_.1.1; omega, hk_.1.2⟩, ⟨hk_.2, by have z_ := hk_.1; omega⟩⟩)), (Kd.S_mono F201.out (fun k_ hk_ => ⟨⟨by have z_ := hk_.1.1; omega, hk_.1.2⟩, ⟨hk_.2, by have z_ := hk_.1; omega⟩⟩)), (Kd.R_mono F202.out (fun k_ hk_ => ⟨⟨by have z_ := hk_.1.1; omega, hk_.1.2⟩, ⟨hk_.2, by have z_ := hk_.1; omega⟩⟩)), (Kd.S_mono F203.out (fun k_ hk_ => ⟨⟨by have z_ := hk_.1.1; omega, hk_.1.2⟩, ⟨hk_.2, by have z_ := hk_.1; omega⟩⟩)), (Kd.R_mono g25_0.out (fun k_ hk_ => ⟨⟨by have z_ := hk_.1.1; omega, hk_.1.2⟩, hk_.2⟩)), (Kd.S_mono g25_1.out (fun k_ hk_ => ⟨⟨by have z_ := hk_.1.1; omega, hk_.1.2⟩, hk_.2⟩)), BK0.out, BK1.out, BK2.out, BK3.out, BK4.out, BK5.out⟩))
   ·skip
    refine value_ (w1 := ?_) (v := ?_) (by rfl) rfl ?_ ?_
    rotate_left 2
    ·go_simp
     constructor
     ·rfl
     ·rfl
    refine hK.out _ _ ⟨(blk_cell (blk_alloc BK0.out _) 0).trans rfl, (blk_cell (blk_alloc BK0.out _) 1).trans rfl, (blk_cell (blk_alloc BK1.out _) 0).trans rfl, (blk_cell (blk_alloc BK1.out _) 1).trans rfl⟩ (fun hHeld => ?_)
    clear hK K
    refine norm_ (a' := ?_) ?_ ?_
    rotate_left
    ·show Act.put _ (some 15) _ = _
     simp only [Act.put, List.setIfInBounds_toArray, List.set_cons_zero, List.set_cons_succ, i64_w, i32_w]
     rfl
    refine one_ (i := 3) (N := some 98) #[true, true, true, true, false, false, false, false, true, false, false] rfl rfl (by kernel_rfl) (by decide) (fun K hK => ?_)
    refine goes_ Try.func21 (by kernel_rfl) rfl #[.agg #[.slice A1_0 l1_0.length c1_0, .slice A1_1 l1_1.length c1_1]] (by rfl) rfl rfl (by simp only [List.map_toArray, List.map_cons, List.map_nil]; rfl) ?_
    (with_reducible refine (laws_toRelation.calls k _ _ l1_0 _ _ l1_1 t5 t6 _ ?side1 ?side2 ?side3 ?side4 D3.out).mono ?_)
    (case side1 => exact Kd.C_below HR1_0.out (by repeat first | exact HB.out | apply below_alloc | apply pw_below_drewN | apply below_drew1))
    (case side2 => exact HC1_0.out)
    (case side3 => exact Kd.C_below HR1_1.out (by repeat first | exact HB.out | apply below_alloc | apply pw_below_drewN | apply below_drew1))
    (case side4 => exact HC1_1.out)
    rintro e w24 ⟨v24_0, v24_1, rfl, h0_, h1_, hb⟩
    (try refine ⟨_, rfl, ?_⟩)
    have hp24 : (w23.heap.size + 1) ≤ _ := Nat.le_trans (by first | exact Nat.le_refl _ | (simp; done) | (simp; omega)) hb.size
    have hq24 : (w23.heap.size + 1) ≤ w24.heap.size := hp24
    have hn := below_step (w := w23) (by repeat (first | exact Below.refl _ _ | (with_reducible first | apply below_alloc | apply pw_below_drewN | apply below_drew1))) hb
    have hs24 := below_size hn
    have hq := Aside0.mk (below_step (by repeat first | exact HB.out | apply below_alloc | apply pw_below_drewN | apply below_drew1) hb)
    have g24_0 := Aside0.mk (Kd.R_mono (ok' := (fun k_ => ((w23.heap.size + 1) ≤ k_ ∧ k_ < w24.heap.size) ∧ ((True) ∧ k_ ≠ w23.heap.size))) (Kd.R_lower (Kd.R_bound h0_) (below_size (by repeat first | exact HB.out | apply below_alloc | apply pw_below_drewN | apply below_drew1))) (fun k_ hk_ => ⟨⟨Nat.le_trans (by first | exact Nat.le_refl _ | (simp; done) | (simp; omega) : (w23.heap.size + 1) ≤ _) hk_.2.1, hk_.2.2.1⟩, ⟨hk_.1, by have z_ : (w23.heap.size + 1) ≤ k_ := Nat.le_trans (by first | exact Nat.le_refl _ | (simp; done) | (simp; omega) : (w23.heap.size + 1) ≤ _) hk_.2.1; omega⟩⟩))
    have g24_1 := Aside0.mk (Kd.S_mono (ok' := (fun k_ => ((w23.heap.size + 1) ≤ k_ ∧ k_ < w24.heap.size) ∧ ((some k_ ≠ (v24_0 : Value).ownBlock) ∧ k_ ≠ w23.heap.size))) (Kd.S_lower (Kd.S_bound h1_) (below_size (by repeat first | exact HB.out | apply below_alloc | apply pw_below_drewN | apply below_drew1))) (fun k_ hk_ => ⟨⟨Nat.le_trans (by first | exact Nat.le_refl _ | (simp; done) | (simp; omega) : (w23.heap.size + 1) ≤ _) hk_.2.1, hk_.2.2.1⟩, ⟨hk_.1, by have z_ : (w23.heap.size + 1) ≤ k_ := Nat.le_trans (by first | exact Nat.le_refl _ | (simp; done) | (simp; omega) : (w23.heap.size + 1) ≤ _) hk_.2.1; omega⟩⟩))
    have F182 := Aside0.mk (Kd.R_below F174.out hn)
    have F183 := Aside0.mk (Kd.V_below F175.out hn)
    have F184 := Aside0.mk (Kd.R_below F176.out hn)
    have F185 := Aside0.mk (Kd.S_below F177.out hn)
    have F186 := Aside0.mk (Kd.R_below F178.out hn)
    have F187 := Aside0.mk (Kd.S_below F179.out hn)
    have F188 := Aside0.mk (Kd.R_below F180.out hn)
    have F189 := Aside0.mk (Kd.S_below F181.out hn)
    have F190 := Aside0.mk (Kd.R_below g23_0.out hn)
    have F191 := Aside0.mk (Kd.S_below g23_1.out hn)
    have NBK0 := Aside0.mk (blk_below (g := w.heap.size) (o := .cells #[.slice A0_0 l0_0.length c0_0, .slice A0_1 l0_1.length c0_1] 42 (0, 0)) (by (with_reducible repeat (first | refine blk_drewN ?_ _ | refine blk_drew ?_ | refine blk_alloc ?_ _)); exact BK0.out) hb)
    have NBK1 := Aside0.mk (blk_below (g := (w.heap.size + 1)) (o := .cells #[.slice A1_0 l1_0.length c1_0, .slice A1_1 l1_1.length c1_1] 42 (0, 0)) (by (with_reducible repeat (first | refine blk_drewN ?_ _ | refine blk_drew ?_ | refine blk_alloc ?_ _)); exact BK1.out) hb)
    have NBK2 := Aside0.mk (blk_below (g := gx8) (o := .cells #[.slice A6_0 t9.length c6_0, .slice A6_1 t10.length c6_1] 44 (0, 0)) (by (with_reducible repeat (first | refine blk_drewN ?_ _ | refine blk_drew ?_ | refine blk_alloc ?_ _)); exact BK2.out) hb)
    have NBK3 := Aside0.mk (blk_below (g := w9.heap.size) (o := .cells #[.slice A9_0 t3.length c9_0, .slice A9_1 t4.length c9_1] 44 (0, 0)) (by (with_reducible repeat (first | refine blk_drewN ?_ _ | refine blk_drew ?_ | refine blk_alloc ?_ _)); exact BK3.out) hb)
    have NBK4 := Aside0.mk (blk_below (g := w10.heap.size) (o := .cells #[.slice A10_0 t5.length c10_0, .slice A10_1 t6.length c10_1] 44 (0, 0)) (by (with_reducible repeat (first | refine blk_drewN ?_ _ | refine blk_drew ?_ | refine blk_alloc ?_ _)); exact BK4.out) hb)
    have NBK5 := Aside0.mk (blk_below (g := w11.heap.size) (o := .cells #[.slice A11_0 t9.length c11_0, .slice A11_1 t10.length c11_1] 44 (0, 0)) (by (with_reducible repeat (first | refine blk_drewN ?_ _ | refine blk_drew ?_ | refine blk_alloc ?_ _)); exact BK5.out) hb)
    have NBK6 := Aside0.mk (blk_below (g := w23.heap.size) (o := .cells #[.slice none 0 0, .slice none 0 0] 44 (0, 0)) (by first | exact heap_alloc_new _ _ | exact blk_drewN (heap_alloc_new _ _) _ | exact blk_drew (heap_alloc_new _ _) | (have h_ := heap_alloc_new w23 (.cells #[.slice none 0 0, .slice none 0 0] 44); simpa using h_)) hb)
    (try clear BK0)
    have BK0 := NBK0
    clear NBK0
    (try clear hlb0)
    have hlb0 : w.heap.size < w24.heap.size := blk_lt BK0.out
    (try clear BK1)
    have BK1 := NBK1
    clear NBK1
    (try clear hlb1)
    have hlb1 : (w.heap.size + 1) < w24.heap.size := blk_lt BK1.out
    (try clear BK2)
    have BK2 := NBK2
    clear NBK2
    (try clear hlb2)
    have hlb2 : gx8 < w24.heap.size := blk_lt BK2.out
    (try clear BK3)
    have BK3 := NBK3
    clear NBK3
    (try clear hlb3)
    have hlb3 : w9.heap.size < w24.heap.size := blk_lt BK3.out
    (try clear BK4)
    have BK4 := NBK4
    clear NBK4
    (try clear hlb4)
    have hlb4 : w10.heap.size < w24.heap.size := blk_lt BK4.out
    (try clear BK5)
    have BK5 := NBK5
    clear NBK5
    (try clear hlb5)
    have hlb5 : w11.heap.size < w24.heap.size := blk_lt BK5.out
    (try clear BK6)
    have BK6 := NBK6
    clear NBK6
    (try clear hlb6)
    have hlb6 : w23.heap.size < w24.heap.size := blk_lt BK6.out
    clear HB F174 F175 F176 F177 F178 F179 F180 F181 g23_0 g23_1
    have HB := hq
    clear hq hn hb h0_ h1_
    obtain ⟨A24_0, c24_0, eo⟩ := Kd.R_slice g24_0.out
    subst eo
    obtain ⟨A24_1, c24_1, eo⟩ := Kd.S_slice g24_1.out
    subst eo
    refine hK.out _ _ ⟨(blk_cell BK0.out 0).trans rfl, (blk_cell BK0.out 1).trans rfl, (blk_cell BK1.out 0).trans rfl, (blk_cell BK1.out 1).trans rfl⟩ (fun hHeld => ?_)
    clear hK K
    refine norm_ (a' := ?_) ?_ ?_
    rotate_left
    ·show Act.put _ (some 98) _ = _
     simp only [Act.put, List.setIfInBounds_toArray, List.set_cons_zero, List.set_cons_succ, i64_w, i32_w]
     rfl
    refine one_ (i := 4) (N := some 99) #[true, true, true, true, true, false, false, false, true, false, false] rfl rfl (by kernel_rfl) (by decide) (fun K hK => ?_)
    refine goes_ Try.func27 (by kernel_rfl) rfl #[.agg #[.slice A23_0 t3.length c23_0, .slice A23_1 t4.length c23_1], .agg #[.slice A24_0 t5.length c24_0, .slice A24_1 t6.length c24_1]] (by rfl) rfl rfl (by simp only [List.map_toArray, List.map_cons, List.map_nil]; rfl) ?_
    (with_reducible refine (impl_WithoutOf.calls k _ _ t3 _ _ t4 _ _ t5 _ _ t6 t9 t10 t11 _ ?side1 ?side2 ?side3 ?side4 ?side5 ?side6 ?side7 ?side8 D5.out).mono ?_)
    (case side1 => repeat (first | exact (Kd.R_reads' F190.out).2.2 | (with_reducible refine Kd.C_alloc ?_ _) | (with_reducible refine Kd.C_drewN ?_ _) | (with_reducible refine Kd.C_drew ?_)))
    (case side2 => exact (Kd.R_reads' F190.out).2.1)
    (case side3 => repeat (first | exact (Kd.S_reads' F191.out).2.2 | (with_reducible refine Kd.C_alloc ?_ _) | (with_reducible refine Kd.C_drewN ?_ _) | (with_reducible refine Kd.C_drew ?_)))
    (case side4 => exact (Kd.S_reads' F191.out).2.1)
    (case side5 => repeat (first | exact (Kd.R_reads' g24_0.out).2.2 | (with_reducible refine Kd.C_alloc ?_ _) | (with_reducible refine Kd.C_drewN ?_ _) | (with_reducible refine Kd.C_drew ?_)))
    (case side6 => exact (Kd.R_reads' g24_0.out).2.1)
    (case side7 => repeat (first | exact (Kd.S_reads' g24_1.out).2.2 | (with_reducible refine Kd.C_alloc ?_ _) | (with_reducible refine Kd.C_drewN ?_ _) | (with_reducible refine Kd.C_drew ?_)))
    (case side8 => exact (Kd.S_reads' g24_1.out).2.1)
    rintro e w25 ⟨v25_0, v25_1, rfl, h0_, h1_, hb⟩
    (try refine ⟨_, rfl, ?_⟩)
    have hn := below_step (w := w24) (by repeat (first | exact Below.refl _ _ | (with_reducible first | apply below_alloc | apply pw_below_drewN | apply below_drew1))) hb
    have hs25 := below_size hn
    have hq := Aside0.mk (below_step (by repeat first | exact HB.out | apply below_alloc | apply pw_below_drewN | apply below_drew1) hb)
    have g25_0 := Aside0.mk (Kd.R_mono (ok' := (fun k_ => (w24.heap.size ≤ k_ ∧ k_ < w25.heap.size) ∧ ((True) ∧ k_ ≠ w23.heap.size))) (Kd.R_lower (Kd.R_bound h0_) (below_size (by repeat first | exact HB.out | apply below_alloc | apply pw_below_drewN | apply below_drew1))) (fun k_ hk_ => ⟨⟨Nat.le_trans (below_size (w := w24) (by repeat (first | exact Below.refl _ _ | (with_reducible first | apply below_alloc | apply pw_below_drewN | apply below_drew1)))) hk_.2.1, hk_.2.2.1⟩, ⟨hk_.1, by have z_ : w24.heap.size ≤ k_ := Nat.le_trans (below_size (w := w24) (by repeat (first | exact Below.refl _ _ | (with_reducible first | apply below_alloc | apply pw_below_drewN | apply below_drew1)))) hk_.2.1; omega⟩⟩))
    have g25_1 := Aside0.mk (Kd.S_mono (ok' := (fun k_ => (w24.heap.size ≤ k_ ∧ k_ < w25.heap.size) ∧ ((some k_ ≠ (v25_0 : Value).ownBlock) ∧ k_ ≠ w23.heap.size))) (Kd.S_lower (Kd.S_bound h1_) (below_size (by repeat first | exact HB.out | apply below_alloc | apply pw_below_drewN | apply below_drew1))) (fun k_ hk_ => ⟨⟨Nat.le_trans (below_size (w := w24) (by repeat (first | exact Below.refl _ _ | (with_reducible first | apply below_alloc | apply pw_below_drewN | apply below_drew1)))) hk_.2.1, hk_.2.2.1⟩, ⟨hk_.1, by have z_ : w24.heap.size ≤ k_ := Nat.le_trans (below_size (w := w24) (by repeat (first | exact Below.refl _ _ | (with_reducible first | apply below_alloc | apply pw_below_drewN | apply below_drew1)))) hk_.2.1; omega⟩⟩))
    have F192 := Aside0.mk (Kd.R_below F182.out hn)
    have F193 := Aside0.mk (Kd.V_below F183.out hn)
    have F194 := Aside0.mk (Kd.R_below F184.out hn)
    have F195 := Aside0.mk (Kd.S_below F185.out hn)
    have F196 := Aside0.mk (Kd.R_below F186.out hn)
    have F197 := Aside0.mk (Kd.S_below F187.out hn)
    have F198 := Aside0.mk (Kd.R_below F188.out hn)
    have F199 := Aside0.mk (Kd.S_below F189.out hn)
    have F200 := Aside0.mk (Kd.R_below F190.out hn)
    have F201 := Aside0.mk (Kd.S_below F191.out hn)
    have F202 := Aside0.mk (Kd.R_below g24_0.out hn)
    have F203 := Aside0.mk (Kd.S_below g24_1.out hn)
    have NBK0 := Aside0.mk (blk_below (g := w.heap.size) (o := .cells #[.slice A0_0 l0_0.length c0_0, .slice A0_1 l0_1.length c0_1] 42 (0, 0)) (by (with_reducible repeat (first | refine blk_drewN ?_ _ | refine blk_drew ?_ | refine blk_alloc ?_ _)); exact BK0.out) hb)
    have NBK1 := Aside0.mk (blk_below (g := (w.heap.size + 1)) (o := .cells #[.slice A1_0 l1_0.length c1_0, .slice A1_1 l1_1.length c1_1] 42 (0, 0)) (by (with_reducible repeat (first | refine blk_drewN ?_ _ | refine blk_drew ?_ | refine blk_alloc ?_ _)); exact BK1.out) hb)
    have NBK2 := Aside0.mk (blk_below (g := gx8) (o := .cells #[.slice A6_0 t9.length c6_0, .slice A6_1 t10.length c6_1] 44 (0, 0)) (by (with_reducible repeat (first | refine blk_drewN ?_ _ | refine blk_drew ?_ | refine blk_alloc ?_ _)); exact BK2.out) hb)
    have NBK3 := Aside0.mk (blk_below (g := w9.heap.size) (o := .cells #[.slice A9_0 t3.length c9_0, .slice A9_1 t4.length c9_1] 44 (0, 0)) (by (with_reducible repeat (first | refine blk_drewN ?_ _ | refine blk_drew ?_ | refine blk_alloc ?_ _)); exact BK3.out) hb)
    have NBK4 := Aside0.mk (blk_below (g := w10.heap.size) (o := .cells #[.slice A10_0 t5.length c10_0, .slice A10_1 t6.length c10_1] 44 (0, 0)) (by (with_reducible repeat (first | refine blk_drewN ?_ _ | refine blk_drew ?_ | refine blk_alloc ?_ _)); exact BK4.out) hb)
    have NBK5 := Aside0.mk (blk_below (g := w11.heap.size) (o := .cells #[.slice A11_0 t9.length c11_0, .slice A11_1 t10.length c11_1] 44 (0, 0)) (by (with_reducible repeat (first | refine blk_drewN ?_ _ | refine blk_drew ?_ | refine blk_alloc ?_ _)); exact BK5.out) hb)
    have NBK6 := Aside0.mk (blk_below (g := w23.heap.size) (o := .cells #[.slice none 0 0, .slice none 0 0] 44 (0, 0)) (by (with_reducible repeat (first | refine blk_drewN ?_ _ | refine blk_drew ?_ | refine blk_alloc ?_ _)); exact BK6.out) hb)
    (try clear BK0)
    have BK0 := NBK0
    clear NBK0
    (try clear hlb0)
    have hlb0 : w.heap.size < w25.heap.size := blk_lt BK0.out
    (try clear BK1)
    have BK1 := NBK1
    clear NBK1
    (try clear hlb1)
    have hlb1 : (w.heap.size + 1) < w25.heap.size := blk_lt BK1.out
    (try clear BK2)
    have BK2 := NBK2
    clear NBK2
    (try clear hlb2)
    have hlb2 : gx8 < w25.heap.size := blk_lt BK2.out
    (try clear BK3)
    have BK3 := NBK3
    clear NBK3
    (try clear hlb3)
    have hlb3 : w9.heap.size < w25.heap.size := blk_lt BK3.out
    (try clear BK4)
    have BK4 := NBK4
    clear NBK4
    (try clear hlb4)
    have hlb4 : w10.heap.size < w25.heap.size := blk_lt BK4.out
    (try clear BK5)
    have BK5 := NBK5
    clear NBK5
    (try clear hlb5)
    have hlb5 : w11.heap.size < w25.heap.size := blk_lt BK5.out
    (try clear BK6)
    have BK6 := NBK6
    clear NBK6
    (try clear hlb6)
    have hlb6 : w23.heap.size < w25.heap.size := blk_lt BK6.out
    clear HB F182 F183 F184 F185 F186 F187 F188 F189 F190 F191 g24_0 g24_1
    have HB := hq
    clear hq hn hb h0_ h1_
    obtain ⟨A25_0, c25_0, eo⟩ := Kd.R_slice g25_0.out
    subst eo
    obtain ⟨A25_1, c25_1, eo⟩ := Kd.S_slice g25_1.out
    subst eo
    refine hK.out _ _ ⟨(blk_cell BK0.out 0).trans rfl, (blk_cell BK0.out 1).trans rfl, (blk_cell BK1.out 0).trans rfl, (blk_cell BK1.out 1).trans rfl⟩ (fun hHeld => ?_)
    clear hK K
    refine norm_ (a' := ?_) ?_ ?_
    rotate_left
    ·show Act.put _ (some 99) _ = _
     simp only [Act.put, List.setIfInBounds_toArray, List.set_cons_zero, List.set_cons_succ, i64_w, i32_w]
     rfl
    refine pure_ (i := 5) (N := some 94) (v := ?_) (a' := ?_) #[true, true, true, true, true, true, false, false, true, false, false] rfl rfl (by kernel_rfl) (fun _ _ _ h => h) (Or.inl ⟨by rfl, ?_⟩) ?_ ?_
    rotate_left
    ·intro w'
     go_simp
     with_reducible rfl
    rotate_left
    ·simp only [Act.put, List.setIfInBounds_toArray, List.set_cons_zero, List.set_cons_succ, i64_w, i32_w]
     rfl
    refine pure_ (i := 6) (N := some 100) (v := ?_) (a' := ?_) #[true, true, true, true, true, true, true, false, true, false, false] rfl rfl (by kernel_rfl) (fun _ _ _ h => h) (Or.inl ⟨by rfl, ?_⟩) ?_ ?_
    rotate_left
    ·intro w'
     go_simp
     with_reducible rfl
    rotate_left
    ·simp only [Act.put, List.setIfInBounds_toArray, List.set_cons_zero, List.set_cons_succ, i64_w, i32_w]
     rfl
    refine pure_ (i := 7) (N := some 101) (v := ?_) (a' := ?_) #[true, true, true, true, true, true, true, true, true, false, false] rfl rfl (by kernel_rfl) (fun _ _ _ h => h) (Or.inl ⟨by rfl, ?_⟩) ?_ ?_
    rotate_left
    ·intro w'
     go_simp
     with_reducible rfl
    rotate_left
    ·simp only [Act.put, List.setIfInBounds_toArray, List.set_cons_zero, List.set_cons_succ, i64_w, i32_w]
     rfl
    exact norm_ (by simp only [putAll, Act.put, List.setIfInBounds_toArray, List.set_cons_zero, List.set_cons_succ]) (hCont (w23, w24, w25, A23_0, c23_0, A23_1, c23_1, A24_0, c24_0, A24_1, c24_1, A25_0, c25_0, A25_1, c25_1, w23.heap.size) _ (by dsimp only; exact ⟨hs23, hs24, hs25, (by first | exact Nat.le_refl _ | (simp; done) | (simp; omega)), (by omega), (by first | omega | (simp; done) | (simp; omega)), BK6.out, (by repeat first | exact HB.out | apply below_alloc | apply pw_below_drewN | apply below_drew1), F192.out, F193.out, F194.out, F195.out, F196.out, F197.out, F198.out, F199.out, (Kd.R_mono F200.out (fun k_ hk_ => ⟨⟨by have z_ := hk_.1.1; omega, hk_.1.2⟩, ⟨hk_.2, by have z_ := hk_.1; omega⟩⟩)), (Kd.S_mono F201.out (fun k_ hk_ => ⟨⟨by have z_ := hk_.1.1; omega, hk_.1.2⟩, ⟨hk_.2, by have z_ := hk_.1; omega⟩⟩)), (Kd.R_mono F202.out (fun k_ hk_ => ⟨⟨by have z_ := hk_.1.1; omega, hk_.1.2⟩, hk_.2⟩)), (Kd.S_mono F203.out (fun k_ hk_ => ⟨⟨by have z_ := hk_.1.1; omega, hk_.1.2⟩, hk_.2⟩)), (Kd.R_mono g25_0.out (fun k_ hk_ => ⟨⟨by have z_ := hk_.1.1; omega, hk_.1.2⟩, hk_.2⟩)), (Kd.S_mono g25_1.out (fun k_ hk_ => ⟨⟨by have z_ := hk_.1.1; omega, hk_.1.2⟩, hk_.2⟩)), BK0.out, BK1.out, BK2.out, BK3.out, BK4.out, BK5.out⟩))
  ·skip
   refine value_ (w1 := ?_) (v := ?_) (by rfl) rfl ?_ ?_
   rotate_left 2
   ·go_simp
    constructor
    ·rfl
    ·rfl
   refine hK.out _ _ ⟨(blk_cell (blk_alloc BK0.out _) 0).trans rfl, (blk_cell (blk_alloc BK0.out _) 1).trans rfl, (blk_cell (blk_alloc BK1.out _) 0).trans rfl, (blk_cell (blk_alloc BK1.out _) 1).trans rfl⟩ (fun hHeld => ?_)
   clear hK K
   refine norm_ (a' := ?_) ?_ ?_
   rotate_left
   ·show Act.put _ (some 15) _ = _
    simp only [Act.put, List.setIfInBounds_toArray, List.set_cons_zero, List.set_cons_succ, i64_w, i32_w]
    rfl
   refine one_ (i := 1) (N := some 96) #[true, true, true, false, false, false, false, false, true, false, false] rfl rfl (by kernel_rfl) (by decide) (fun K hK => ?_)
   refine goes_ Try.func21 (by kernel_rfl) rfl #[.agg #[.slice A0_0 l0_0.length c0_0, .slice A0_1 l0_1.length c0_1]] (by rfl) rfl rfl (by simp only [List.map_toArray, List.map_cons, List.map_nil]; rfl) ?_
   (with_reducible refine (laws_toRelation.calls k _ _ l0_0 _ _ l0_1 t3 t4 _ ?side1 ?side2 ?side3 ?side4 D2.out).mono ?_)
   (case side1 => exact Kd.C_below HR0_0.out (by repeat first | exact HB.out | apply below_alloc | apply pw_below_drewN | apply below_drew1))
   (case side2 => exact HC0_0.out)
   (case side3 => exact Kd.C_below HR0_1.out (by repeat first | exact HB.out | apply below_alloc | apply pw_below_drewN | apply below_drew1))
   (case side4 => exact HC0_1.out)
   rintro e w23 ⟨v23_0, v23_1, rfl, h0_, h1_, hb⟩
   (try refine ⟨_, rfl, ?_⟩)
   have hp23 : (w22.heap.size + 1) ≤ _ := Nat.le_trans (by first | exact Nat.le_refl _ | (simp; done) | (simp; omega)) hb.size
   have hq23 : (w22.heap.size + 1) ≤ w23.heap.size := hp23
   have hn := below_step (w := w22) (by repeat (first | exact Below.refl _ _ | (with_reducible first | apply below_alloc | apply pw_below_drewN | apply below_drew1))) hb
   have hs23 := below_size hn
   have hq := Aside0.mk (below_step (by repeat first | exact HB.out | apply below_alloc | apply pw_below_drewN | apply below_drew1) hb)
   have g23_0 := Aside0.mk (Kd.R_mono (ok' := (fun k_ => ((w22.heap.size + 1) ≤ k_ ∧ k_ < w23.heap.size) ∧ ((True) ∧ k_ ≠ w22.heap.size))) (Kd.R_lower (Kd.R_bound h0_) (below_size (by repeat first | exact HB.out | apply below_alloc | apply pw_below_drewN | apply below_drew1))) (fun k_ hk_ => ⟨⟨Nat.le_trans (by first | exact Nat.le_refl _ | (simp; done) | (simp; omega) : (w22.heap.size + 1) ≤ _) hk_.2.1, hk_.2.2.1⟩, ⟨hk_.1, by have z_ : (w22.heap.size + 1) ≤ k_ := Nat.le_trans (by first | exact Nat.le_refl _ | (simp; done) | (simp; omega) : (w22.heap.size + 1) ≤ _) hk_.2.1; omega⟩⟩))
   have g23_1 := Aside0.mk (Kd.S_mono (ok' := (fun k_ => ((w22.heap.size + 1) ≤ k_ ∧ k_ < w23.heap.size) ∧ ((some k_ ≠ (v23_0 : Value).ownBlock) ∧ k_ ≠ w22.heap.size))) (Kd.S_lower (Kd.S_bound h1_) (below_size (by repeat first | exact HB.out | apply below_alloc | apply pw_below_drewN | apply below_drew1))) (fun k_ hk_ => ⟨⟨Nat.le_trans (by first | exact Nat.le_refl _ | (simp; done) | (simp; omega) : (w22.heap.size + 1) ≤ _) hk_.2.1, hk_.2.2.1⟩, ⟨hk_.1, by have z_ : (w22.heap.size + 1) ≤ k_ := Nat.le_trans (by first | exact Nat.le_refl _ | (simp; done) | (simp; omega) : (w22.heap.size + 1) ≤ _) hk_.2.1; omega⟩⟩))
   have F174 := Aside0.mk (Kd.R_below F136.out hn)
   have F175 := Aside0.mk (Kd.V_below F137.out hn)
   have F176 := Aside0.mk (Kd.R_below F138.out hn)
   have F177 := Aside0.mk (Kd.S_below F139.out hn)
   have F178 := Aside0.mk (Kd.R_below F140.out hn)
   have F179 := Aside0.mk (Kd.S_below F141.out hn)
   have F180 := Aside0.mk (Kd.R_below F142.out hn)
   have F181 := Aside0.mk (Kd.S_below F143.out hn)
   have NBK0 := Aside0.mk (blk_below (g := w.heap.size) (o := .cells #[.slice A0_0 l0_0.length c0_0, .slice A0_1 l0_1.length c0_1] 42 (0, 0)) (by (with_reducible repeat (first | refine blk_drewN ?_ _ | refine blk_drew ?_ | refine blk_alloc ?_ _)); exact BK0.out) hb)
   have NBK1 := Aside0.mk (blk_below (g := (w.heap.size + 1)) (o := .cells #[.slice A1_0 l1_0.length c1_0, .slice A1_1 l1_1.length c1_1] 42 (0, 0)) (by (with_reducible repeat (first | refine blk_drewN ?_ _ | refine blk_drew ?_ | refine blk_alloc ?_ _)); exact BK1.out) hb)
   have NBK2 := Aside0.mk (blk_below (g := gx8) (o := .cells #[.slice A6_0 t9.length c6_0, .slice A6_1 t10.length c6_1] 44 (0, 0)) (by (with_reducible repeat (first | refine blk_drewN ?_ _ | refine blk_drew ?_ | refine blk_alloc ?_ _)); exact BK2.out) hb)
   have NBK3 := Aside0.mk (blk_below (g := w9.heap.size) (o := .cells #[.slice A9_0 t3.length c9_0, .slice A9_1 t4.length c9_1] 44 (0, 0)) (by (with_reducible repeat (first | refine blk_drewN ?_ _ | refine blk_drew ?_ | refine blk_alloc ?_ _)); exact BK3.out) hb)
   have NBK4 := Aside0.mk (blk_below (g := w10.heap.size) (o := .cells #[.slice A10_0 t5.length c10_0, .slice A10_1 t6.length c10_1] 44 (0, 0)) (by (with_reducible repeat (first | refine blk_drewN ?_ _ | refine blk_drew ?_ | refine blk_alloc ?_ _)); exact BK4.out) hb)
   have NBK5 := Aside0.mk (blk_below (g := w11.heap.size) (o := .cells #[.slice A11_0 t9.length c11_0, .slice A11_1 t10.length c11_1] 44 (0, 0)) (by (with_reducible repeat (first | refine blk_drewN ?_ _ | refine blk_drew ?_ | refine blk_alloc ?_ _)); exact BK5.out) hb)
   have NBK6 := Aside0.mk (blk_below (g := w22.heap.size) (o := .cells #[.slice none 0 0, .slice none 0 0] 44 (0, 0)) (by first | exact heap_alloc_new _ _ | exact blk_drewN (heap_alloc_new _ _) _ | exact blk_drew (heap_alloc_new _ _) | (have h_ := heap_alloc_new w22 (.cells #[.slice none 0 0, .slice none 0 0] 44); simpa using h_)) hb)
   (try clear BK0)
   have BK0 := NBK0
   clear NBK0
   (try clear hlb0)
   have hlb0 : w.heap.size < w23.heap.size := blk_lt BK0.out
   (try clear BK1)
   have BK1 := NBK1
   clear NBK1
   (try clear hlb1)
   have hlb1 : (w.heap.size + 1) < w23.heap.size := blk_lt BK1.out
   (try clear BK2)
   have BK2 := NBK2
   clear NBK2
   (try clear hlb2)
   have hlb2 : gx8 < w23.heap.size := blk_lt BK2.out
   (try clear BK3)
   have BK3 := NBK3
   clear NBK3
   (try clear hlb3)
   have hlb3 : w9.heap.size < w23.heap.size := blk_lt BK3.out
   (try clear BK4)
   have BK4 := NBK4
   clear NBK4
   (try clear hlb4)
   have hlb4 : w10.heap.size < w23.heap.size := blk_lt BK4.out
   (try clear BK5)
   have BK5 := NBK5
   clear NBK5
   (try clear hlb5)
   have hlb5 : w11.heap.size < w23.heap.size := blk_lt BK5.out
   (try clear BK6)
   have BK6 := NBK6
   clear NBK6
   (try clear hlb6)
   have hlb6 : w22.heap.size < w23.heap.size := blk_lt BK6.out
   clear HB F136 F137 F138 F139 F140 F141 F142 F143
   have HB := hq
   clear hq hn hb h0_ h1_
   obtain ⟨A23_0, c23_0, eo⟩ := Kd.R_slice g23_0.out
   subst eo
   obtain ⟨A23_1, c23_1, eo⟩ := Kd.S_slice g23_1.out
   subst eo
   refine hK.out _ _ ⟨(blk_cell BK0.out 0).trans rfl, (blk_cell BK0.out 1).trans rfl, (blk_cell BK1.out 0).trans rfl, (blk_cell BK1.out 1).trans rfl⟩ (fun hHeld => ?_)
   clear hK K
   refine norm_ (a' := ?_) ?_ ?_
   rotate_left
   ·show Act.put _ (some 96) _ = _
    simp only [Act.put, List.setIfInBounds_toArray, List.set_cons_zero, List.set_cons_succ, i64_w, i32_w]
    rfl
   refine one_ (i := 3) (N := some 98) #[true, true, true, true, false, false, false, false, true, false, false] rfl rfl (by kernel_rfl) (by decide) (fun K hK => ?_)
   refine goes_ Try.func21 (by kernel_rfl) rfl #[.agg #[.slice A1_0 l1_0.length c1_0, .slice A1_1 l1_1.length c1_1]] (by rfl) rfl rfl (by simp only [List.map_toArray, List.map_cons, List.map_nil]; rfl) ?_
   (with_reducible refine (laws_toRelation.calls k _ _ l1_0 _ _ l1_1 t5 t6 _ ?side1 ?side2 ?side3 ?side4 D3.out).mono ?_)
   (case side1 => exact Kd.C_below HR1_0.out (by repeat first | exact HB.out | apply below_alloc | apply pw_below_drewN | apply below_drew1))
   (case side2 => exact HC1_0.out)
   (case side3 => exact Kd.C_below HR1_1.out (by repeat first | exact HB.out | apply below_alloc | apply pw_below_drewN | apply below_drew1))
   (case side4 => exact HC1_1.out)
   rintro e w24 ⟨v24_0, v24_1, rfl, h0_, h1_, hb⟩
   (try refine ⟨_, rfl, ?_⟩)
   have hn := below_step (w := w23) (by repeat (first | exact Below.refl _ _ | (with_reducible first | apply below_alloc | apply pw_below_drewN | apply below_drew1))) hb
   have hs24 := below_size hn
   have hq := Aside0.mk (below_step (by repeat first | exact HB.out | apply below_alloc | apply pw_below_drewN | apply below_drew1) hb)
   have g24_0 := Aside0.mk (Kd.R_mono (ok' := (fun k_ => (w23.heap.size ≤ k_ ∧ k_ < w24.heap.size) ∧ ((True) ∧ k_ ≠ w22.heap.size))) (Kd.R_lower (Kd.R_bound h0_) (below_size (by repeat first | exact HB.out | apply below_alloc | apply pw_below_drewN | apply below_drew1))) (fun k_ hk_ => ⟨⟨Nat.le_trans (below_size (w := w23) (by repeat (first | exact Below.refl _ _ | (with_reducible first | apply below_alloc | apply pw_below_drewN | apply below_drew1)))) hk_.2.1, hk_.2.2.1⟩, ⟨hk_.1, by have z_ : w23.heap.size ≤ k_ := Nat.le_trans (below_size (w := w23) (by repeat (first | exact Below.refl _ _ | (with_reducible first | apply below_alloc | apply pw_below_drewN | apply below_drew1)))) hk_.2.1; omega⟩⟩))
   have g24_1 := Aside0.mk (Kd.S_mono (ok' := (fun k_ => (w23.heap.size ≤ k_ ∧ k_ < w24.heap.size) ∧ ((some k_ ≠ (v24_0 : Value).ownBlock) ∧ k_ ≠ w22.heap.size))) (Kd.S_lower (Kd.S_bound h1_) (below_size (by repeat first | exact HB.out | apply below_alloc | apply pw_below_drewN | apply below_drew1))) (fun k_ hk_ => ⟨⟨Nat.le_trans (below_size (w := w23) (by repeat (first | exact Below.refl _ _ | (with_reducible first | apply below_alloc | apply pw_below_drewN | apply below_drew1)))) hk_.2.1, hk_.2.2.1⟩, ⟨hk_.1, by have z_ : w23.heap.size ≤ k_ := Nat.le_trans (below_size (w := w23) (by repeat (first | exact Below.refl _ _ | (with_reducible first | apply below_alloc | apply pw_below_drewN | apply below_drew1)))) hk_.2.1; omega⟩⟩))
   have F182 := Aside0.mk (Kd.R_below F174.out hn)
   have F183 := Aside0.mk (Kd.V_below F175.out hn)
   have F184 := Aside0.mk (Kd.R_below F176.out hn)
   have F185 := Aside0.mk (Kd.S_below F177.out hn)
   have F186 := Aside0.mk (Kd.R_below F178.out hn)
   have F187 := Aside0.mk (Kd.S_below F179.out hn)
   have F188 := Aside0.mk (Kd.R_below F180.out hn)
   have F189 := Aside0.mk (Kd.S_below F181.out hn)
   have F190 := Aside0.mk (Kd.R_below g23_0.out hn)
   have F191 := Aside0.mk (Kd.S_below g23_1.out hn)
   have NBK0 := Aside0.mk (blk_below (g := w.heap.size) (o := .cells #[.slice A0_0 l0_0.length c0_0, .slice A0_1 l0_1.length c0_1] 42 (0, 0)) (by (with_reducible repeat (first | refine blk_drewN ?_ _ | refine blk_drew ?_ | refine blk_alloc ?_ _)); exact BK0.out) hb)
   have NBK1 := Aside0.mk (blk_below (g := (w.heap.size + 1)) (o := .cells #[.slice A1_0 l1_0.length c1_0, .slice A1_1 l1_1.length c1_1] 42 (0, 0)) (by (with_reducible repeat (first | refine blk_drewN ?_ _ | refine blk_drew ?_ | refine blk_alloc ?_ _)); exact BK1.out) hb)
   have NBK2 := Aside0.mk (blk_below (g := gx8) (o := .cells #[.slice A6_0 t9.length c6_0, .slice A6_1 t10.length c6_1] 44 (0, 0)) (by (with_reducible repeat (first | refine blk_drewN ?_ _ | refine blk_drew ?_ | refine blk_alloc ?_ _)); exact BK2.out) hb)
   have NBK3 := Aside0.mk (blk_below (g := w9.heap.size) (o := .cells #[.slice A9_0 t3.length c9_0, .slice A9_1 t4.length c9_1] 44 (0, 0)) (by (with_reducible repeat (first | refine blk_drewN ?_ _ | refine blk_drew ?_ | refine blk_alloc ?_ _)); exact BK3.out) hb)
   have NBK4 := Aside0.mk (blk_below (g := w10.heap.size) (o := .cells #[.slice A10_0 t5.length c10_0, .slice A10_1 t6.length c10_1] 44 (0, 0)) (by (with_reducible repeat (first | refine blk_drewN ?_ _ | refine blk_drew ?_ | refine blk_alloc ?_ _)); exact BK4.out) hb)
   have NBK5 := Aside0.mk (blk_below (g := w11.heap.size) (o := .cells #[.slice A11_0 t9.length c11_0, .slice A11_1 t10.length c11_1] 44 (0, 0)) (by (with_reducible repeat (first | refine blk_drewN ?_ _ | refine blk_drew ?_ | refine blk_alloc ?_ _)); exact BK5.out) hb)
   have NBK6 := Aside0.mk (blk_below (g := w22.heap.size) (o := .cells #[.slice none 0 0, .slice none 0 0] 44 (0, 0)) (by (with_reducible repeat (first | refine blk_drewN ?_ _ | refine blk_drew ?_ | refine blk_alloc ?_ _)); exact BK6.out) hb)
   (try clear BK0)
   have BK0 := NBK0
   clear NBK0
   (try clear hlb0)
   have hlb0 : w.heap.size < w24.heap.size := blk_lt BK0.out
   (try clear BK1)
   have BK1 := NBK1
   clear NBK1
   (try clear hlb1)
   have hlb1 : (w.heap.size + 1) < w24.heap.size := blk_lt BK1.out
   (try clear BK2)
   have BK2 := NBK2
   clear NBK2
   (try clear hlb2)
   have hlb2 : gx8 < w24.heap.size := blk_lt BK2.out
   (try clear BK3)
   have BK3 := NBK3
   clear NBK3
   (try clear hlb3)
   have hlb3 : w9.heap.size < w24.heap.size := blk_lt BK3.out
   (try clear BK4)
   have BK4 := NBK4
   clear NBK4
   (try clear hlb4)
   have hlb4 : w10.heap.size < w24.heap.size := blk_lt BK4.out
   (try clear BK5)
   have BK5 := NBK5
   clear NBK5
   (try clear hlb5)
   have hlb5 : w11.heap.size < w24.heap.size := blk_lt BK5.out
   (try clear BK6)
   have BK6 := NBK6
   clear NBK6
   (try clear hlb6)
   have hlb6 : w22.heap.size < w24.heap.size := blk_lt BK6.out
   clear HB F174 F175 F176 F177 F178 F179 F180 F181 g23_0 g23_1
   have HB := hq
   clear hq hn hb h0_ h1_
   obtain ⟨A24_0, c24_0, eo⟩ := Kd.R_slice g24_0.out
   subst eo
   obtain ⟨A24_1, c24_1, eo⟩ := Kd.S_slice g24_1.out
   subst eo
   refine hK.out _ _ ⟨(blk_cell BK0.out 0).trans rfl, (blk_cell BK0.out 1).trans rfl, (blk_cell BK1.out 0).trans rfl, (blk_cell BK1.out 1).trans rfl⟩ (fun hHeld => ?_)
   clear hK K
   refine norm_ (a' := ?_) ?_ ?_
   rotate_left
   ·show Act.put _ (some 98) _ = _
    simp only [Act.put, List.setIfInBounds_toArray, List.set_cons_zero, List.set_cons_succ, i64_w, i32_w]
    rfl
   refine one_ (i := 4) (N := some 99) #[true, true, true, true, true, false, false, false, true, false, false] rfl rfl (by kernel_rfl) (by decide) (fun K hK => ?_)
   refine goes_ Try.func27 (by kernel_rfl) rfl #[.agg #[.slice A23_0 t3.length c23_0, .slice A23_1 t4.length c23_1], .agg #[.slice A24_0 t5.length c24_0, .slice A24_1 t6.length c24_1]] (by rfl) rfl rfl (by simp only [List.map_toArray, List.map_cons, List.map_nil]; rfl) ?_
   (with_reducible refine (impl_WithoutOf.calls k _ _ t3 _ _ t4 _ _ t5 _ _ t6 t9 t10 t11 _ ?side1 ?side2 ?side3 ?side4 ?side5 ?side6 ?side7 ?side8 D5.out).mono ?_)
   (case side1 => repeat (first | exact (Kd.R_reads' F190.out).2.2 | (with_reducible refine Kd.C_alloc ?_ _) | (with_reducible refine Kd.C_drewN ?_ _) | (with_reducible refine Kd.C_drew ?_)))
   (case side2 => exact (Kd.R_reads' F190.out).2.1)
   (case side3 => repeat (first | exact (Kd.S_reads' F191.out).2.2 | (with_reducible refine Kd.C_alloc ?_ _) | (with_reducible refine Kd.C_drewN ?_ _) | (with_reducible refine Kd.C_drew ?_)))
   (case side4 => exact (Kd.S_reads' F191.out).2.1)
   (case side5 => repeat (first | exact (Kd.R_reads' g24_0.out).2.2 | (with_reducible refine Kd.C_alloc ?_ _) | (with_reducible refine Kd.C_drewN ?_ _) | (with_reducible refine Kd.C_drew ?_)))
   (case side6 => exact (Kd.R_reads' g24_0.out).2.1)
   (case side7 => repeat (first | exact (Kd.S_reads' g24_1.out).2.2 | (with_reducible refine Kd.C_alloc ?_ _) | (with_reducible refine Kd.C_drewN ?_ _) | (with_reducible refine Kd.C_drew ?_)))
   (case side8 => exact (Kd.S_reads' g24_1.out).2.1)
   rintro e w25 ⟨v25_0, v25_1, rfl, h0_, h1_, hb⟩
   (try refine ⟨_, rfl, ?_⟩)
   have hn := below_step (w := w24) (by repeat (first | exact Below.refl _ _ | (with_reducible first | apply below_alloc | apply pw_below_drewN | apply below_drew1))) hb
   have hs25 := below_size hn
   have hq := Aside0.mk (below_step (by repeat first | exact HB.out | apply below_alloc | apply pw_below_drewN | apply below_drew1) hb)
   have g25_0 := Aside0.mk (Kd.R_mono (ok' := (fun k_ => (w24.heap.size ≤ k_ ∧ k_ < w25.heap.size) ∧ ((True) ∧ k_ ≠ w22.heap.size))) (Kd.R_lower (Kd.R_bound h0_) (below_size (by repeat first | exact HB.out | apply below_alloc | apply pw_below_drewN | apply below_drew1))) (fun k_ hk_ => ⟨⟨Nat.le_trans (below_size (w := w24) (by repeat (first | exact Below.refl _ _ | (with_reducible first | apply below_alloc | apply pw_below_drewN | apply below_drew1)))) hk_.2.1, hk_.2.2.1⟩, ⟨hk_.1, by have z_ : w24.heap.size ≤ k_ := Nat.le_trans (below_size (w := w24) (by repeat (first | exact Below.refl _ _ | (with_reducible first | apply below_alloc | apply pw_below_drewN | apply below_drew1)))) hk_.2.1; omega⟩⟩))
   have g25_1 := Aside0.mk (Kd.S_mono (ok' := (fun k_ => (w24.heap.size ≤ k_ ∧ k_ < w25.heap.size) ∧ ((some k_ ≠ (v25_0 : Value).ownBlock) ∧ k_ ≠ w22.heap.size))) (Kd.S_lower (Kd.S_bound h1_) (below_size (by repeat first | exact HB.out | apply below_alloc | apply pw_below_drewN | apply below_drew1))) (fun k_ hk_ => ⟨⟨Nat.le_trans (below_size (w := w24) (by repeat (first | exact Below.refl _ _ | (with_reducible first | apply below_alloc | apply pw_below_drewN | apply below_drew1)))) hk_.2.1, hk_.2.2.1⟩, ⟨hk_.1, by have z_ : w24.heap.size ≤ k_ := Nat.le_trans (below_size (w := w24) (by repeat (first | exact Below.refl _ _ | (with_reducible first | apply below_alloc | apply pw_below_drewN | apply below_drew1)))) hk_.2.1; omega⟩⟩))
   have F192 := Aside0.mk (Kd.R_below F182.out hn)
   have F193 := Aside0.mk (Kd.V_below F183.out hn)
   have F194 := Aside0.mk (Kd.R_below F184.out hn)
   have F195 := Aside0.mk (Kd.S_below F185.out hn)
   have F196 := Aside0.mk (Kd.R_below F186.out hn)
   have F197 := Aside0.mk (Kd.S_below F187.out hn)
   have F198 := Aside0.mk (Kd.R_below F188.out hn)
   have F199 := Aside0.mk (Kd.S_below F189.out hn)
   have F200 := Aside0.mk (Kd.R_below F190.out hn)
   have F201 := Aside0.mk (Kd.S_below F191.out hn)
   have F202 := Aside0.mk (Kd.R_below g24_0.out hn)
   have F203 := Aside0.mk (Kd.S_below g24_1.out hn)
   have NBK0 := Aside0.mk (blk_below (g := w.heap.size) (o := .cells #[.slice A0_0 l0_0.length c0_0, .slice A0_1 l0_1.length c0_1] 42 (0, 0)) (by (with_reducible repeat (first | refine blk_drewN ?_ _ | refine blk_drew ?_ | refine blk_alloc ?_ _)); exact BK0.out) hb)
   have NBK1 := Aside0.mk (blk_below (g := (w.heap.size + 1)) (o := .cells #[.slice A1_0 l1_0.length c1_0, .slice A1_1 l1_1.length c1_1] 42 (0, 0)) (by (with_reducible repeat (first | refine blk_drewN ?_ _ | refine blk_drew ?_ | refine blk_alloc ?_ _)); exact BK1.out) hb)
   have NBK2 := Aside0.mk (blk_below (g := gx8) (o := .cells #[.slice A6_0 t9.length c6_0, .slice A6_1 t10.length c6_1] 44 (0, 0)) (by (with_reducible repeat (first | refine blk_drewN ?_ _ | refine blk_drew ?_ | refine blk_alloc ?_ _)); exact BK2.out) hb)
   have NBK3 := Aside0.mk (blk_below (g := w9.heap.size) (o := .cells #[.slice A9_0 t3.length c9_0, .slice A9_1 t4.length c9_1] 44 (0, 0)) (by (with_reducible repeat (first | refine blk_drewN ?_ _ | refine blk_drew ?_ | refine blk_alloc ?_ _)); exact BK3.out) hb)
   have NBK4 := Aside0.mk (blk_below (g := w10.heap.size) (o := .cells #[.slice A10_0 t5.length c10_0, .slice A10_1 t6.length c10_1] 44 (0, 0)) (by (with_reducible repeat (first | refine blk_drewN ?_ _ | refine blk_drew ?_ | refine blk_alloc ?_ _)); exact BK4.out) hb)
   have NBK5 := Aside0.mk (blk_below (g := w11.heap.size) (o := .cells #[.slice A11_0 t9.length c11_0, .slice A11_1 t10.length c11_1] 44 (0, 0)) (by (with_reducible repeat (first | refine blk_drewN ?_ _ | refine blk_drew ?_ | refine blk_alloc ?_ _)); exact BK5.out) hb)
   have NBK6 := Aside0.mk (blk_below (g := w22.heap.size) (o := .cells #[.slice none 0 0, .slice none 0 0] 44 (0, 0)) (by (with_reducible repeat (first | refine blk_drewN ?_ _ | refine blk_drew ?_ | refine blk_alloc ?_ _)); exact BK6.out) hb)
   (try clear BK0)
   have BK0 := NBK0
   clear NBK0
   (try clear hlb0)
   have hlb0 : w.heap.size < w25.heap.size := blk_lt BK0.out
   (try clear BK1)
   have BK1 := NBK1
   clear NBK1
   (try clear hlb1)
   have hlb1 : (w.heap.size + 1) < w25.heap.size := blk_lt BK1.out
   (try clear BK2)
   have BK2 := NBK2
   clear NBK2
   (try clear hlb2)
   have hlb2 : gx8 < w25.heap.size := blk_lt BK2.out
   (try clear BK3)
   have BK3 := NBK3
   clear NBK3
   (try clear hlb3)
   have hlb3 : w9.heap.size < w25.heap.size := blk_lt BK3.out
   (try clear BK4)
   have BK4 := NBK4
   clear NBK4
   (try clear hlb4)
   have hlb4 : w10.heap.size < w25.heap.size := blk_lt BK4.out
   (try clear BK5)
   have BK5 := NBK5
   clear NBK5
   (try clear hlb5)
   have hlb5 : w11.heap.size < w25.heap.size := blk_lt BK5.out
   (try clear BK6)
   have BK6 := NBK6
   clear NBK6
   (try clear hlb6)
   have hlb6 : w22.heap.size < w25.heap.size := blk_lt BK6.out
   clear HB F182 F183 F184 F185 F186 F187 F188 F189 F190 F191 g24_0 g24_1
   have HB := hq
   clear hq hn hb h0_ h1_
   obtain ⟨A25_0, c25_0, eo⟩ := Kd.R_slice g25_0.out
   subst eo
   obtain ⟨A25_1, c25_1, eo⟩ := Kd.S_slice g25_1.out
   subst eo
   refine hK.out _ _ ⟨(blk_cell BK0.out 0).trans rfl, (blk_cell BK0.out 1).trans rfl, (blk_cell BK1.out 0).trans rfl, (blk_cell BK1.out 1).trans rfl⟩ (fun hHeld => ?_)
   clear hK K
   refine norm_ (a' := ?_) ?_ ?_
   rotate_left
   ·show Act.put _ (some 99) _ = _
    simp only [Act.put, List.setIfInBounds_toArray, List.set_cons_zero, List.set_cons_succ, i64_w, i32_w]
    rfl
   refine pure_ (i := 5) (N := some 94) (v := ?_) (a' := ?_) #[true, true, true, true, true, true, false, false, true, false, false] rfl rfl (by kernel_rfl) (fun _ _ _ h => h) (Or.inl ⟨by rfl, ?_⟩) ?_ ?_
   rotate_left
   ·intro w'
    go_simp
    with_reducible rfl
   rotate_left
   ·simp only [Act.put, List.setIfInBounds_toArray, List.set_cons_zero, List.set_cons_succ, i64_w, i32_w]
    rfl
   refine pure_ (i := 6) (N := some 100) (v := ?_) (a' := ?_) #[true, true, true, true, true, true, true, false, true, false, false] rfl rfl (by kernel_rfl) (fun _ _ _ h => h) (Or.inl ⟨by rfl, ?_⟩) ?_ ?_
   rotate_left
   ·intro w'
    go_simp
    with_reducible rfl
   rotate_left
   ·simp only [Act.put, List.setIfInBounds_toArray, List.set_cons_zero, List.set_cons_succ, i64_w, i32_w]
    rfl
   refine pure_ (i := 7) (N := some 101) (v := ?_) (a' := ?_) #[true, true, true, true, true, true, true, true, true, false, false] rfl rfl (by kernel_rfl) (fun _ _ _ h => h) (Or.inl ⟨by rfl, ?_⟩) ?_ ?_
   rotate_left
   ·intro w'
    go_simp
    with_reducible rfl
   rotate_left
   ·simp only [Act.put, List.setIfInBounds_toArray, List.set_cons_zero, List.set_cons_succ, i64_w, i32_w]
    rfl
   exact norm_ (by simp only [putAll, Act.put, List.setIfInBounds_toArray, List.set_cons_zero, List.set_cons_succ]) (hCont (w23, w24, w25, A23_0, c23_0, A23_1, c23_1, A24_0, c24_0, A24_1, c24_1, A25_0, c25_0, A25_1, c25_1, w22.heap.size) _ (by dsimp only; exact ⟨hs23, hs24, hs25, (by first | exact Nat.le_refl _ | (simp; done) | (simp; omega)), (by omega), (by first | omega | (simp; done) | (simp; omega)), BK6.out, (by repeat first | exact HB.out | apply below_alloc | apply pw_below_drewN | apply below_drew1), F192.out, F193.out, F194.out, F195.out, F196.out, F197.out, F198.out, F199.out, (Kd.R_mono F200.out (fun k_ hk_ => ⟨⟨by have z_ := hk_.1.1; omega, hk_.1.2⟩, hk_.2⟩)), (Kd.S_mono F201.out (fun k_ hk_ => ⟨⟨by have z_ := hk_.1.1; omega, hk_.1.2⟩, hk_.2⟩)), (Kd.R_mono F202.out (fun k_ hk_ => ⟨⟨by have z_ := hk_.1.1; omega, hk_.1.2⟩, hk_.2⟩)), (Kd.S_mono F203.out (fun k_ hk_ => ⟨⟨by have z_ := hk_.1.1; omega, hk_.1.2⟩, hk_.2⟩)), (Kd.R_mono g25_0.out (fun k_ hk_ => ⟨⟨by have z_ := hk_.1.1; omega, hk_.1.2⟩, hk_.2⟩)), (Kd.S_mono g25_1.out (fun k_ hk_ => ⟨⟨by have z_ := hk_.1.1; omega, hk_.1.2⟩, hk_.2⟩)), BK0.out, BK1.out, BK2.out, BK3.out, BK4.out, BK5.out⟩))
 rintro ⟨w23, w24, w25, A23_0, c23_0, A23_1, c23_1, A24_0, c24_0, A24_1, c24_1, A25_0, c25_0, A25_1, c25_1, gx31⟩ w26 hF_
 dsimp only at hF_
 obtain ⟨hs23, hs24, hs25, hs26, hg131, hg231, hBZ, hHB, hF205, hF206, hF207, hF208, hF209, hF210, hF211, hF212, hF213, hF214, hF215, hF216, hF217, hF218, hBK0, hBK1, hBK2, hBK3, hBK4, hBK5⟩ := hF_
 clear HB hHeld F136 F137 F138 F139 F140 F141 F142 F143
 have HB := Aside0.mk hHB
 clear hHB
 have F205 := Aside0.mk hF205
 have F206 := Aside0.mk hF206
 have F207 := Aside0.mk hF207
 have F208 := Aside0.mk hF208
 have F209 := Aside0.mk hF209
 have F210 := Aside0.mk hF210
 have F211 := Aside0.mk hF211
 have F212 := Aside0.mk hF212
 have F213 := Aside0.mk hF213
 have F214 := Aside0.mk hF214
 have F215 := Aside0.mk hF215
 have F216 := Aside0.mk hF216
 have F217 := Aside0.mk hF217
 have F218 := Aside0.mk hF218
 clear hF205 hF206 hF207 hF208 hF209 hF210 hF211 hF212 hF213 hF214 hF215 hF216 hF217 hF218
 (try clear BK0)
 have BK0 := Aside0.mk hBK0
 clear hBK0
 (try clear hlb0)
 have hlb0 : w.heap.size < w26.heap.size := blk_lt BK0.out
 (try clear BK1)
 have BK1 := Aside0.mk hBK1
 clear hBK1
 (try clear hlb1)
 have hlb1 : (w.heap.size + 1) < w26.heap.size := blk_lt BK1.out
 (try clear BK2)
 have BK2 := Aside0.mk hBK2
 clear hBK2
 (try clear hlb2)
 have hlb2 : gx8 < w26.heap.size := blk_lt BK2.out
 (try clear BK3)
 have BK3 := Aside0.mk hBK3
 clear hBK3
 (try clear hlb3)
 have hlb3 : w9.heap.size < w26.heap.size := blk_lt BK3.out
 (try clear BK4)
 have BK4 := Aside0.mk hBK4
 clear hBK4
 (try clear hlb4)
 have hlb4 : w10.heap.size < w26.heap.size := blk_lt BK4.out
 (try clear BK5)
 have BK5 := Aside0.mk hBK5
 clear hBK5
 (try clear hlb5)
 have hlb5 : w11.heap.size < w26.heap.size := blk_lt BK5.out
 have hHeld : w26.cell? ⟨w.heap.size, 0, none⟩ = some (.slice A0_0 l0_0.length c0_0) ∧ w26.cell? ⟨w.heap.size, 1, none⟩ = some (.slice A0_1 l0_1.length c0_1) ∧ w26.cell? ⟨(w.heap.size + 1), 0, none⟩ = some (.slice A1_0 l1_0.length c1_0) ∧ w26.cell? ⟨(w.heap.size + 1), 1, none⟩ = some (.slice A1_1 l1_1.length c1_1) := ⟨(blk_cell BK0.out 0).trans rfl, (blk_cell BK0.out 1).trans rfl, (blk_cell BK1.out 0).trans rfl, (blk_cell BK1.out 1).trans rfl⟩
 refine norm_ (a' := ?_) ?_ ?_
 rotate_left
 ·simp only [putAll, Act.put, List.setIfInBounds_toArray, List.set_cons_zero, List.set_cons_succ]
  rfl
 refine last_ (i := 9) (N := none) #[true, true, true, true, true, true, true, true, true, true, false] rfl rfl (by kernel_rfl) (by decide) (fun K hK => ?_)
 have hz0 : w26.cell? ⟨gx31, 0, none⟩ = some (.slice none 0 0) := (blk_cell hBZ 0).trans rfl
 have hz1 : w26.cell? ⟨gx31, 1, none⟩ = some (.slice none 0 0) := (blk_cell hBZ 1).trans rfl
 have hzf0 : w26.frozen? ⟨gx31, 0, none⟩ = false := blk_frozen hBZ 0
 have hzf1 : w26.frozen? ⟨gx31, 1, none⟩ = false := blk_frozen hBZ 1
 refine skip_ (w1 := ?_) (by rfl) rfl ?_ ?_
 rotate_left
 ·go_simp
  rfl
 refine hK.out _ _ ?_
 clear hK K
 refine letter_ (fun w' => Kept w26 w' (fun k_ => k_ = gx31) ∧ w'.heap[gx31]? = some (.cells #[.slice A25_0 t9.length c25_0, .slice A25_1 t10.length c25_1] 44 (0, 0)) ∧ Below w.heap.size w w') ⟨(Kept.setCell (p := ⟨gx31, 1, none⟩) (Kept.setCell (p := ⟨gx31, 0, none⟩) (Kept.refl w26 (fun k_ => k_ = gx31)) (Or.inl (show _ = _ from rfl)) _) (Or.inl (show _ = _ from rfl)) _), (blk_put (cs' := #[.slice A25_0 t9.length c25_0, .slice A25_1 t10.length c25_1]) (blk_put (cs' := #[.slice A25_0 t9.length c25_0, .slice none 0 0]) hBZ 0 _ rfl) 1 _ rfl), by repeat (first | exact HB.out | refine Below.setCell ?_ (by show w.heap.size ≤ gx31; have := HB.out.size; have := hs22; omega) _)⟩ ?_
 rintro w27 ⟨hK9, hBK6, hB9⟩
 have hs27 : w26.heap.size ≤ w27.heap.size := hK9.1
 have NBK0 := blk_kept (o := .cells #[.slice A0_0 l0_0.length c0_0, .slice A0_1 l0_1.length c0_1] 42 (0, 0)) BK0.out hK9 (fun he_ => by omega)
 have NBK1 := blk_kept (o := .cells #[.slice A1_0 l1_0.length c1_0, .slice A1_1 l1_1.length c1_1] 42 (0, 0)) BK1.out hK9 (fun he_ => by omega)
 have NBK2 := blk_kept (o := .cells #[.slice A6_0 t9.length c6_0, .slice A6_1 t10.length c6_1] 44 (0, 0)) BK2.out hK9 (fun he_ => by omega)
 have NBK3 := blk_kept (o := .cells #[.slice A9_0 t3.length c9_0, .slice A9_1 t4.length c9_1] 44 (0, 0)) BK3.out hK9 (fun he_ => by omega)
 have NBK4 := blk_kept (o := .cells #[.slice A10_0 t5.length c10_0, .slice A10_1 t6.length c10_1] 44 (0, 0)) BK4.out hK9 (fun he_ => by omega)
 have NBK5 := blk_kept (o := .cells #[.slice A11_0 t9.length c11_0, .slice A11_1 t10.length c11_1] 44 (0, 0)) BK5.out hK9 (fun he_ => by omega)
 have F219 := Aside0.mk (Kd.R_kept F205.out hK9 (fun k_ hk_ he_ => by first | exact hk_.2.2 he_ | (have z_ := hk_.1; omega)))
 have F220 := Aside0.mk (Kd.V_kept F206.out hK9 (fun k_ hk_ he_ => by first | exact hk_.2.2 he_ | (have z_ := hk_.1; omega)))
 have F221 := Aside0.mk (Kd.R_kept F207.out hK9 (fun k_ hk_ he_ => by first | exact hk_.2.2 he_ | (have z_ := hk_.1; omega)))
 have F222 := Aside0.mk (Kd.S_kept F208.out hK9 (fun k_ hk_ he_ => by first | exact hk_.2.2 he_ | (have z_ := hk_.1; omega)))
 have F223 := Aside0.mk (Kd.R_kept F209.out hK9 (fun k_ hk_ he_ => by first | exact hk_.2.2 he_ | (have z_ := hk_.1; omega)))
 have F224 := Aside0.mk (Kd.S_kept F210.out hK9 (fun k_ hk_ he_ => by first | exact hk_.2.2 he_ | (have z_ := hk_.1; omega)))
 have F225 := Aside0.mk (Kd.R_kept F211.out hK9 (fun k_ hk_ he_ => by first | exact hk_.2.2 he_ | (have z_ := hk_.1; omega)))
 have F226 := Aside0.mk (Kd.S_kept F212.out hK9 (fun k_ hk_ he_ => by first | exact hk_.2.2 he_ | (have z_ := hk_.1; omega)))
 have F227 := Aside0.mk (Kd.R_kept F213.out hK9 (fun k_ hk_ he_ => by first | exact hk_.2.2 he_ | (have z_ := hk_.1; omega)))
 have F228 := Aside0.mk (Kd.S_kept F214.out hK9 (fun k_ hk_ he_ => by first | exact hk_.2.2 he_ | (have z_ := hk_.1; omega)))
 have F229 := Aside0.mk (Kd.R_kept F215.out hK9 (fun k_ hk_ he_ => by first | exact hk_.2.2 he_ | (have z_ := hk_.1; omega)))
 have F230 := Aside0.mk (Kd.S_kept F216.out hK9 (fun k_ hk_ he_ => by first | exact hk_.2.2 he_ | (have z_ := hk_.1; omega)))
 have F231 := Aside0.mk (Kd.R_kept F217.out hK9 (fun k_ hk_ he_ => by first | exact hk_.2.2 he_ | (have z_ := hk_.1; omega)))
 have F232 := Aside0.mk (Kd.S_kept F218.out hK9 (fun k_ hk_ he_ => by first | exact hk_.2.2 he_ | (have z_ := hk_.1; omega)))
 clear HB hBZ F205 F206 F207 F208 F209 F210 F211 F212 F213 F214 F215 F216 F217 F218
 have HB := Aside0.mk hB9
 (try clear BK0)
 have BK0 := Aside0.mk NBK0
 clear NBK0
 (try clear hlb0)
 have hlb0 : w.heap.size < w27.heap.size := blk_lt BK0.out
 (try clear cb0_0)
 have cb0_0 : w27.cell? ⟨w.heap.size, 0, none⟩ = some (.slice A0_0 l0_0.length c0_0) := (blk_cell BK0.out 0).trans rfl
 (try clear cb0_1)
 have cb0_1 : w27.cell? ⟨w.heap.size, 1, none⟩ = some (.slice A0_1 l0_1.length c0_1) := (blk_cell BK0.out 1).trans rfl
 (try clear BK1)
 have BK1 := Aside0.mk NBK1
 clear NBK1
 (try clear hlb1)
 have hlb1 : (w.heap.size + 1) < w27.heap.size := blk_lt BK1.out
 (try clear cb1_0)
 have cb1_0 : w27.cell? ⟨(w.heap.size + 1), 0, none⟩ = some (.slice A1_0 l1_0.length c1_0) := (blk_cell BK1.out 0).trans rfl
 (try clear cb1_1)
 have cb1_1 : w27.cell? ⟨(w.heap.size + 1), 1, none⟩ = some (.slice A1_1 l1_1.length c1_1) := (blk_cell BK1.out 1).trans rfl
 (try clear BK2)
 have BK2 := Aside0.mk NBK2
 clear NBK2
 (try clear hlb2)
 have hlb2 : gx8 < w27.heap.size := blk_lt BK2.out
 (try clear cb2_0)
 have cb2_0 : w27.cell? ⟨gx8, 0, none⟩ = some (.slice A6_0 t9.length c6_0) := (blk_cell BK2.out 0).trans rfl
 (try clear cb2_1)
 have cb2_1 : w27.cell? ⟨gx8, 1, none⟩ = some (.slice A6_1 t10.length c6_1) := (blk_cell BK2.out 1).trans rfl
 (try clear BK3)
 have BK3 := Aside0.mk NBK3
 clear NBK3
 (try clear hlb3)
 have hlb3 : w9.heap.size < w27.heap.size := blk_lt BK3.out
 (try clear cb3_0)
 have cb3_0 : w27.cell? ⟨w9.heap.size, 0, none⟩ = some (.slice A9_0 t3.length c9_0) := (blk_cell BK3.out 0).trans rfl
 (try clear cb3_1)
 have cb3_1 : w27.cell? ⟨w9.heap.size, 1, none⟩ = some (.slice A9_1 t4.length c9_1) := (blk_cell BK3.out 1).trans rfl
 (try clear BK4)
 have BK4 := Aside0.mk NBK4
 clear NBK4
 (try clear hlb4)
 have hlb4 : w10.heap.size < w27.heap.size := blk_lt BK4.out
 (try clear cb4_0)
 have cb4_0 : w27.cell? ⟨w10.heap.size, 0, none⟩ = some (.slice A10_0 t5.length c10_0) := (blk_cell BK4.out 0).trans rfl
 (try clear cb4_1)
 have cb4_1 : w27.cell? ⟨w10.heap.size, 1, none⟩ = some (.slice A10_1 t6.length c10_1) := (blk_cell BK4.out 1).trans rfl
 (try clear BK5)
 have BK5 := Aside0.mk NBK5
 clear NBK5
 (try clear hlb5)
 have hlb5 : w11.heap.size < w27.heap.size := blk_lt BK5.out
 (try clear cb5_0)
 have cb5_0 : w27.cell? ⟨w11.heap.size, 0, none⟩ = some (.slice A11_0 t9.length c11_0) := (blk_cell BK5.out 0).trans rfl
 (try clear cb5_1)
 have cb5_1 : w27.cell? ⟨w11.heap.size, 1, none⟩ = some (.slice A11_1 t10.length c11_1) := (blk_cell BK5.out 1).trans rfl
 have hBK6_ := hBK6
 (try clear BK6)
 have BK6 := Aside0.mk hBK6
 clear hBK6
 (try clear hlb6)
 have hlb6 : gx31 < w27.heap.size := blk_lt BK6.out
 (try clear cb6_0)
 have cb6_0 : w27.cell? ⟨gx31, 0, none⟩ = some (.slice A25_0 t9.length c25_0) := (blk_cell BK6.out 0).trans rfl
 (try clear cb6_1)
 have cb6_1 : w27.cell? ⟨gx31, 1, none⟩ = some (.slice A25_1 t10.length c25_1) := (blk_cell BK6.out 1).trans rfl
 clear hB9 hK9
 refine pure_ (i := 10) (N := some 16) (v := ?_) (a' := ?_) #[true, true, true, true, true, true, true, true, true, true, true] rfl rfl (by kernel_rfl) (fun _ _ _ h => h) (Or.inl ⟨by rfl, ?_⟩) ?_ ?_
 rotate_left
 ·intro w'
  go_simp
  with_reducible rfl
 rotate_left
 ·simp only [Act.put, List.setIfInBounds_toArray, List.set_cons_zero, List.set_cons_succ, i64_w, i32_w]
  rfl
 refine done_ (by kernel_rfl) ?_
 
 go_wp2_with (first | ((first | ((with_reducible refine gate_callee (f := 23) rfl ?_); refine goesL_ (some 104) rfl rfl Try.func23 (by kernel_rfl) rfl #[.agg #[.slice A25_0 t9.length c25_0, .slice A25_1 t10.length c25_1], .agg #[.slice A6_0 t9.length c6_0, .slice A6_1 t10.length c6_1]] rfl (by (try simp only [List.map_toArray, List.map_cons, List.map_nil]); first | done | rfl | (simp only [List.length_drop, List.length_take]; rfl)) ?_) | go_at_call 23); (with_reducible refine (laws_eqRelation.calls k _ _ t9 _ _ t10 _ _ t9 _ _ t10 true _ ?side1 ?side2 ?side3 ?side4 ?side5 ?side6 ?side7 ?side8 D6.out).mono ?_); (case side1 => repeat (first | exact (Kd.R_reads' F231.out).2.2 | (with_reducible refine Kd.C_alloc ?_ _) | (with_reducible refine Kd.C_drewN ?_ _) | (with_reducible refine Kd.C_drew ?_))); (case side2 => exact (Kd.R_reads' F231.out).2.1); (case side3 => repeat (first | exact (Kd.S_reads' F232.out).2.2 | (with_reducible refine Kd.C_alloc ?_ _) | (with_reducible refine Kd.C_drewN ?_ _) | (with_reducible refine Kd.C_drew ?_))); (case side4 => exact (Kd.S_reads' F232.out).2.1); (case side5 => repeat (first | exact (Kd.R_reads' F219.out).2.2 | (with_reducible refine Kd.C_alloc ?_ _) | (with_reducible refine Kd.C_drewN ?_ _) | (with_reducible refine Kd.C_drew ?_))); (case side6 => exact (Kd.R_reads' F219.out).2.1); (case side7 => repeat (first | exact (Kd.V_reads' F220.out).2.2 | (with_reducible refine Kd.C_alloc ?_ _) | (with_reducible refine Kd.C_drewN ?_ _) | (with_reducible refine Kd.C_drew ?_))); (case side8 => exact (Kd.V_reads' F220.out).2.1); rintro e w28 ⟨rfl, hb⟩; (try refine ⟨_, rfl, ?_⟩); have hn := below_step (w := w27) (by repeat (first | exact Below.refl _ _ | (with_reducible first | apply below_alloc | apply pw_below_drewN | apply below_drew1))) hb; have hs28 := below_size hn; have hq := Aside0.mk (below_step (by repeat first | exact HB.out | apply below_alloc | apply pw_below_drewN | apply below_drew1) hb); have F233 := Aside0.mk (Kd.R_below F219.out hn); have F234 := Aside0.mk (Kd.V_below F220.out hn); have F235 := Aside0.mk (Kd.R_below F221.out hn); have F236 := Aside0.mk (Kd.S_below F222.out hn); have F237 := Aside0.mk (Kd.R_below F223.out hn); have F238 := Aside0.mk (Kd.S_below F224.out hn); have F239 := Aside0.mk (Kd.R_below F225.out hn); have F240 := Aside0.mk (Kd.S_below F226.out hn); have F241 := Aside0.mk (Kd.R_below F231.out hn); have F242 := Aside0.mk (Kd.S_below F232.out hn); have NBK0 := Aside0.mk (blk_below (g := w.heap.size) (o := .cells #[.slice A0_0 l0_0.length c0_0, .slice A0_1 l0_1.length c0_1] 42 (0, 0)) (by (with_reducible repeat (first | refine blk_drewN ?_ _ | refine blk_drew ?_ | refine blk_alloc ?_ _)); exact BK0.out) hb); have NBK1 := Aside0.mk (blk_below (g := (w.heap.size + 1)) (o := .cells #[.slice A1_0 l1_0.length c1_0, .slice A1_1 l1_1.length c1_1] 42 (0, 0)) (by (with_reducible repeat (first | refine blk_drewN ?_ _ | refine blk_drew ?_ | refine blk_alloc ?_ _)); exact BK1.out) hb); have NBK2 := Aside0.mk (blk_below (g := gx8) (o := .cells #[.slice A6_0 t9.length c6_0, .slice A6_1 t10.length c6_1] 44 (0, 0)) (by (with_reducible repeat (first | refine blk_drewN ?_ _ | refine blk_drew ?_ | refine blk_alloc ?_ _)); exact BK2.out) hb); have NBK3 := Aside0.mk (blk_below (g := w9.heap.size) (o := .cells #[.slice A9_0 t3.length c9_0, .slice A9_1 t4.length c9_1] 44 (0, 0)) (by (with_reducible repeat (first | refine blk_drewN ?_ _ | refine blk_drew ?_ | refine blk_alloc ?_ _)); exact BK3.out) hb); have NBK4 := Aside0.mk (blk_below (g := w10.heap.size) (o := .cells #[.slice A10_0 t5.length c10_0, .slice A10_1 t6.length c10_1] 44 (0, 0)) (by (with_reducible repeat (first | refine blk_drewN ?_ _ | refine blk_drew ?_ | refine blk_alloc ?_ _)); exact BK4.out) hb); have NBK5 := Aside0.mk (blk_below (g := w11.heap.size) (o := .cells #[.slice A11_0 t9.length c11_0, .slice A11_1 t10.length c11_1] 44 (0, 0)) (by (with_reducible repeat (first | refine blk_drewN ?_ _ | refine blk_drew ?_ | refine blk_alloc ?_ _)); exact BK5.out) hb); have NBK6 := Aside0.mk (blk_below (g := gx31) (o := .cells #[.slice A25_0 t9.length c25_0, .slice A25_1 t10.length c25_1] 44 (0, 0)) (by (with_reducible repeat (first | refine blk_drewN ?_ _ | refine blk_drew ?_ | refine blk_alloc ?_ _)); exact BK6.out) hb); (try clear BK0); have BK0 := NBK0; clear NBK0; (try clear hlb0); have hlb0 : w.heap.size < w28.heap.size := blk_lt BK0.out; (try clear cb0_0); have cb0_0 : w28.cell? ⟨w.heap.size, 0, none⟩ = some (.slice A0_0 l0_0.length c0_0) := (blk_cell BK0.out 0).trans rfl; (try clear cb0_1); have cb0_1 : w28.cell? ⟨w.heap.size, 1, none⟩ = some (.slice A0_1 l0_1.length c0_1) := (blk_cell BK0.out 1).trans rfl; (try clear BK1); have BK1 := NBK1; clear NBK1; (try clear hlb1); have hlb1 : (w.heap.size + 1) < w28.heap.size := blk_lt BK1.out; (try clear cb1_0); have cb1_0 : w28.cell? ⟨(w.heap.size + 1), 0, none⟩ = some (.slice A1_0 l1_0.length c1_0) := (blk_cell BK1.out 0).trans rfl; (try clear cb1_1); have cb1_1 : w28.cell? ⟨(w.heap.size + 1), 1, none⟩ = some (.slice A1_1 l1_1.length c1_1) := (blk_cell BK1.out 1).trans rfl; (try clear BK2); have BK2 := NBK2; clear NBK2; (try clear hlb2); have hlb2 : gx8 < w28.heap.size := blk_lt BK2.out; (try clear cb2_0); have cb2_0 : w28.cell? ⟨gx8, 0, none⟩ = some (.slice A6_0 t9.length c6_0) := (blk_cell BK2.out 0).trans rfl; (try clear cb2_1); have cb2_1 : w28.cell? ⟨gx8, 1, none⟩ = some (.slice A6_1 t10.length c6_1) := (blk_cell BK2.out 1).trans rfl; (try clear BK3); have BK3 := NBK3; clear NBK3; (try clear hlb3); have hlb3 : w9.heap.size < w28.heap.size := blk_lt BK3.out; (try clear cb3_0); have cb3_0 : w28.cell? ⟨w9.heap.size, 0, none⟩ = some (.slice A9_0 t3.length c9_0) := (blk_cell BK3.out 0).trans rfl; (try clear cb3_1); have cb3_1 : w28.cell? ⟨w9.heap.size, 1, none⟩ = some (.slice A9_1 t4.length c9_1) := (blk_cell BK3.out 1).trans rfl; (try clear BK4); have BK4 := NBK4; clear NBK4; (try clear hlb4); have hlb4 : w10.heap.size < w28.heap.size := blk_lt BK4.out; (try clear cb4_0); have cb4_0 : w28.cell? ⟨w10.heap.size, 0, none⟩ = some (.slice A10_0 t5.length c10_0) := (blk_cell BK4.out 0).trans rfl; (try clear cb4_1); have cb4_1 : w28.cell? ⟨w10.heap.size, 1, none⟩ = some (.slice A10_1 t6.length c10_1) := (blk_cell BK4.out 1).trans rfl; (try clear BK5); have BK5 := NBK5; clear NBK5; (try clear hlb5); have hlb5 : w11.heap.size < w28.heap.size := blk_lt BK5.out; (try clear cb5_0); have cb5_0 : w28.cell? ⟨w11.heap.size, 0, none⟩ = some (.slice A11_0 t9.length c11_0) := (blk_cell BK5.out 0).trans rfl; (try clear cb5_1); have cb5_1 : w28.cell? ⟨w11.heap.size, 1, none⟩ = some (.slice A11_1 t10.length c11_1) := (blk_cell BK5.out 1).trans rfl; (try clear BK6); have BK6 := NBK6; clear NBK6; (try clear hlb6); have hlb6 : gx31 < w28.heap.size := blk_lt BK6.out; (try clear cb6_0); have cb6_0 : w28.cell? ⟨gx31, 0, none⟩ = some (.slice A25_0 t9.length c25_0) := (blk_cell BK6.out 0).trans rfl; (try clear cb6_1); have cb6_1 : w28.cell? ⟨gx31, 1, none⟩ = some (.slice A25_1 t10.length c25_1) := (blk_cell BK6.out 1).trans rfl; clear HB F219 F220 F221 F222 F223 F224 F225 F226 F231 F232; have HB := hq; clear hq hn hb ) | ((first | ((with_reducible refine gate_callee (f := 25) rfl ?_); refine goesL_ (some 113) rfl rfl Try.func25 (by kernel_rfl) rfl #[.agg #[.slice A11_0 t9.length c11_0, .slice A11_1 t10.length c11_1], .int .i64 1] rfl (by (try simp only [List.map_toArray, List.map_cons, List.map_nil]); first | done | rfl | (simp only [List.length_drop, List.length_take]; rfl)) ?_) | go_at_call 25); refine (calls_eq (xs_ := #[.agg #[.slice A11_0 z118.length c11_0, .slice A11_1 z119.length c11_1], .int .i64 1]) (ys_ := #[.agg #[.slice A11_0 t9.length c11_0, .slice A11_1 t10.length c11_1], .int .i64 1]) (by rw [(Kd.R_reads' F239.out).1, (Kd.S_reads' F240.out).1]) (laws_heldRelation.calls k _ _ z118 _ _ z119 1 t117 _ ?side1 ?side2 ?side3 ?side4 D12.out)).mono ?_; (case side1 => repeat (first | exact (by have h_ := Kd.R_reads' F239.out; rw [h_.1] at h_; exact h_.2.2) | (with_reducible refine Kd.C_alloc ?_ _) | (with_reducible refine Kd.C_drewN ?_ _) | (with_reducible refine Kd.C_drew ?_))); (case side2 => exact (by have h_ := Kd.R_reads' F239.out; rw [h_.1] at h_; exact h_.2.1)); (case side3 => repeat (first | exact (by have h_ := Kd.S_reads' F240.out; rw [h_.1] at h_; exact h_.2.2) | (with_reducible refine Kd.C_alloc ?_ _) | (with_reducible refine Kd.C_drewN ?_ _) | (with_reducible refine Kd.C_drew ?_))); (case side4 => exact (by have h_ := Kd.S_reads' F240.out; rw [h_.1] at h_; exact h_.2.1)); rintro e w29 ⟨rfl, hb⟩; (try refine ⟨_, rfl, ?_⟩); have hn := below_step (w := w28) (by repeat (first | exact Below.refl _ _ | (with_reducible first | apply below_alloc | apply pw_below_drewN | apply below_drew1))) hb; have hs29 := below_size hn; have hq := Aside0.mk (below_step (by repeat first | exact HB.out | apply below_alloc | apply pw_below_drewN | apply below_drew1) hb); have F243 := Aside0.mk (Kd.R_below F233.out hn); have F244 := Aside0.mk (Kd.V_below F234.out hn); have F245 := Aside0.mk (Kd.R_below F235.out hn); have F246 := Aside0.mk (Kd.S_below F236.out hn); have F247 := Aside0.mk (Kd.R_below F237.out hn); have F248 := Aside0.mk (Kd.S_below F238.out hn); have F249 := Aside0.mk (Kd.R_below F239.out hn); have F250 := Aside0.mk (Kd.S_below F240.out hn); have F251 := Aside0.mk (Kd.R_below F241.out hn); have F252 := Aside0.mk (Kd.S_below F242.out hn); have NBK0 := Aside0.mk (blk_below (g := w.heap.size) (o := .cells #[.slice A0_0 l0_0.length c0_0, .slice A0_1 l0_1.length c0_1] 42 (0, 0)) (by (with_reducible repeat (first | refine blk_drewN ?_ _ | refine blk_drew ?_ | refine blk_alloc ?_ _)); exact BK0.out) hb); have NBK1 := Aside0.mk (blk_below (g := (w.heap.size + 1)) (o := .cells #[.slice A1_0 l1_0.length c1_0, .slice A1_1 l1_1.length c1_1] 42 (0, 0)) (by (with_reducible repeat (first | refine blk_drewN ?_ _ | refine blk_drew ?_ | refine blk_alloc ?_ _)); exact BK1.out) hb); have NBK2 := Aside0.mk (blk_below (g := gx8) (o := .cells #[.slice A6_0 t9.length c6_0, .slice A6_1 t10.length c6_1] 44 (0, 0)) (by (with_reducible repeat (first | refine blk_drewN ?_ _ | refine blk_drew ?_ | refine blk_alloc ?_ _)); exact BK2.out) hb); have NBK3 := Aside0.mk (blk_below (g := w9.heap.size) (o := .cells #[.slice A9_0 t3.length c9_0, .slice A9_1 t4.length c9_1] 44 (0, 0)) (by (with_reducible repeat (first | refine blk_drewN ?_ _ | refine blk_drew ?_ | refine blk_alloc ?_ _)); exact BK3.out) hb); have NBK4 := Aside0.mk (blk_below (g := w10.heap.size) (o := .cells #[.slice A10_0 t5.length c10_0, .slice A10_1 t6.length c10_1] 44 (0, 0)) (by (with_reducible repeat (first | refine blk_drewN ?_ _ | refine blk_drew ?_ | refine blk_alloc ?_ _)); exact BK4.out) hb); have NBK5 := Aside0.mk (blk_below (g := w11.heap.size) (o := .cells #[.slice A11_0 t9.length c11_0, .slice A11_1 t10.length c11_1] 44 (0, 0)) (by (with_reducible repeat (first | refine blk_drewN ?_ _ | refine blk_drew ?_ | refine blk_alloc ?_ _)); exact BK5.out) hb); have NBK6 := Aside0.mk (blk_below (g := gx31) (o := .cells #[.slice A25_0 t9.length c25_0, .slice A25_1 t10.length c25_1] 44 (0, 0)) (by (with_reducible repeat (first | refine blk_drewN ?_ _ | refine blk_drew ?_ | refine blk_alloc ?_ _)); exact BK6.out) hb); (try clear BK0); have BK0 := NBK0; clear NBK0; (try clear hlb0); have hlb0 : w.heap.size < w29.heap.size := blk_lt BK0.out; (try clear cb0_0); have cb0_0 : w29.cell? ⟨w.heap.size, 0, none⟩ = some (.slice A0_0 l0_0.length c0_0) := (blk_cell BK0.out 0).trans rfl; (try clear cb0_1); have cb0_1 : w29.cell? ⟨w.heap.size, 1, none⟩ = some (.slice A0_1 l0_1.length c0_1) := (blk_cell BK0.out 1).trans rfl; (try clear BK1); have BK1 := NBK1; clear NBK1; (try clear hlb1); have hlb1 : (w.heap.size + 1) < w29.heap.size := blk_lt BK1.out; (try clear cb1_0); have cb1_0 : w29.cell? ⟨(w.heap.size + 1), 0, none⟩ = some (.slice A1_0 l1_0.length c1_0) := (blk_cell BK1.out 0).trans rfl; (try clear cb1_1); have cb1_1 : w29.cell? ⟨(w.heap.size + 1), 1, none⟩ = some (.slice A1_1 l1_1.length c1_1) := (blk_cell BK1.out 1).trans rfl; (try clear BK2); have BK2 := NBK2; clear NBK2; (try clear hlb2); have hlb2 : gx8 < w29.heap.size := blk_lt BK2.out; (try clear cb2_0); have cb2_0 : w29.cell? ⟨gx8, 0, none⟩ = some (.slice A6_0 t9.length c6_0) := (blk_cell BK2.out 0).trans rfl; (try clear cb2_1); have cb2_1 : w29.cell? ⟨gx8, 1, none⟩ = some (.slice A6_1 t10.length c6_1) := (blk_cell BK2.out 1).trans rfl; (try clear BK3); have BK3 := NBK3; clear NBK3; (try clear hlb3); have hlb3 : w9.heap.size < w29.heap.size := blk_lt BK3.out; (try clear cb3_0); have cb3_0 : w29.cell? ⟨w9.heap.size, 0, none⟩ = some (.slice A9_0 t3.length c9_0) := (blk_cell BK3.out 0).trans rfl; (try clear cb3_1); have cb3_1 : w29.cell? ⟨w9.heap.size, 1, none⟩ = some (.slice A9_1 t4.length c9_1) := (blk_cell BK3.out 1).trans rfl; (try clear BK4); have BK4 := NBK4; clear NBK4; (try clear hlb4); have hlb4 : w10.heap.size < w29.heap.size := blk_lt BK4.out; (try clear cb4_0); have cb4_0 : w29.cell? ⟨w10.heap.size, 0, none⟩ = some (.slice A10_0 t5.length c10_0) := (blk_cell BK4.out 0).trans rfl; (try clear cb4_1); have cb4_1 : w29.cell? ⟨w10.heap.size, 1, none⟩ = some (.slice A10_1 t6.length c10_1) := (blk_cell BK4.out 1).trans rfl; (try clear BK5); have BK5 := NBK5; clear NBK5; (try clear hlb5); have hlb5 : w11.heap.size < w29.heap.size := blk_lt BK5.out; (try clear cb5_0); have cb5_0 : w29.cell? ⟨w11.heap.size, 0, none⟩ = some (.slice A11_0 t9.length c11_0) := (blk_cell BK5.out 0).trans rfl; (try clear cb5_1); have cb5_1 : w29.cell? ⟨w11.heap.size, 1, none⟩ = some (.slice A11_1 t10.length c11_1) := (blk_cell BK5.out 1).trans rfl; (try clear BK6); have BK6 := NBK6; clear NBK6; (try clear hlb6); have hlb6 : gx31 < w29.heap.size := blk_lt BK6.out; (try clear cb6_0); have cb6_0 : w29.cell? ⟨gx31, 0, none⟩ = some (.slice A25_0 t9.length c25_0) := (blk_cell BK6.out 0).trans rfl; (try clear cb6_1); have cb6_1 : w29.cell? ⟨gx31, 1, none⟩ = some (.slice A25_1 t10.length c25_1) := (blk_cell BK6.out 1).trans rfl; clear HB F233 F234 F235 F236 F237 F238 F239 F240 F241 F242; have HB := hq; clear hq hn hb ))
 (try go_wp2)
 go_ret
 exact ⟨by first | rfl | (simp; done) | (simp [*]; done), by repeat first | exact HB.out | apply below_alloc | apply pw_below_drewN | apply below_drew1⟩
end Go.Proofs.Ytcihgepinnajjaa.PFnExactWithoutOf
