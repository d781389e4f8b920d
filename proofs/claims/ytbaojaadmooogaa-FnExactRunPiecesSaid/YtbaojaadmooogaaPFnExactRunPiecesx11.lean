import Derived.Test.YtbaojaadmooogaaPFnExactRunPiecesx0
import Derived.Test.YtbaojaadmooogaaPFnExactRunPiecesx10
namespace Go.Proofs.Ytbaojaadmooogaa.PFnExactRunPieces
open Go.RowKit Go.Proofs.YtbaojaadmooogaaW.PrintWords Go.Proofs.YtbaojaadmooogaaW.PrintLast Go.Proofs.YtbaojaadmooogaaW.PrintMore
attribute [local go_sem] max2_int min2_int max_two min_two max_three min_three max_four min_four
set_option linter.unusedVariables false
set_option linter.unusedSimpArgs false
def impl_needs.l0 : Nat → List (S98) → List (List Int) → List (S98) → Int → Int → Option ((List (List Int)))
 | 0, _, _, _, _, _ => none
 | k + 1, x0, x3, x7, x8, x9 => if x9 < x8 then (if 0 ≤ x9 then (if x9 < (x7.length : Int) then (if ((rd_T98 x7 x9).f0) = 1 then (impl_needs.l0 k x0 x3 x7 x8 (wrap64 (x9 + 1))) else (if 0 ≤ ((rd_T98 x7 x9).f3) then (if ((rd_T98 x7 x9).f3) < (x0.length : Int) then (if ((rd_T98 x0 ((rd_T98 x7 x9).f3)).f1) = ((rd_T98 x7 x9).f1) then (impl_needs.l0 k x0 x3 x7 x8 (wrap64 (x9 + 1))) else (if 0 ≤ ((rd_T98 x7 x9).f1) then (if ((rd_T98 x7 x9).f1) < (x3.length : Int) then ((impl_together.f k (rd_L3 x3 ((rd_T98 x7 x9).f1)) (([(rd_T98 x0 ((rd_T98 x7 x9).f3)).f1] : List Int))).bind fun t210 => (impl_needs.l0 k x0 (x3.set (((rd_T98 x7 x9).f1) : Int).toNat t210) x7 x8 (wrap64 (x9 + 1)))) else (none)) else (none))) else (none)) else (none))) else (none)) else (none)) else (some x3)
theorem impl_needs.mono_l : ∀ k, (∀ y0 y1 y2 y3 y4, LeO (impl_needs.l0 k y0 y1 y2 y3 y4) (impl_needs.l0 (k + 1) y0 y1 y2 y3 y4))
 | 0 => fun _ _ _ _ _ r h => by simp [impl_needs.l0] at h
 | k + 1 => by
  have ih0 := impl_needs.mono_l k
  ·intro y0 y1 y2 y3 y4
   unfold impl_needs.l0
   repeat' first
   | (with_reducible exact ih0 _ _ _ _ _)
   | (with_reducible exact impl_together.mono _ _ _)
   | (with_reducible exact LeO.refl _)
   | (with_reducible exact LeO.none _)
   | (with_reducible refine LeO.ite ?_ ?_)
   | (with_reducible refine LeO.bind ?_ (fun _ => ?_))
   | exact ih0 _ _ _ _ _
   | exact impl_together.mono _ _ _
   | exact LeO.none _
   | refine LeO.ite ?_ ?_
   | refine LeO.bind ?_ (fun _ => ?_)
def impl_needs.T5 : Bool × List (List Nat × List Nat) := (true, [([], []), ([0], [0]), ([1], [1]), ([2], [2]), ([3], [3]), ([3], [3]), ([5, 3], [3, 5]), ([4, 6, 3], [3, 4, 6]), ([7, 3], [3, 7]), ([8, 3], [3, 8]), ([3], [3]), ([10, 3], [3, 10]), ([9, 11, 3], [3, 9, 11]), ([3, 12], [3, 12])])
def impl_needs.B5 : List Nat := [0, 1, 3, 7, 15, 15, 47, 127, 255, 511, 15, 1039, 4095, 8191]
theorem impl_needs.tab5 : rtab .any (opsOf Try.f76 5) = impl_needs.T5 := by kernel_rfl
theorem impl_needs.bits5 : waitsOk impl_needs.T5.2 impl_needs.B5 = true := by kernel_rfl
def impl_needs.T6 : Bool × List (List Nat × List Nat) := (true, [([], []), ([], []), ([1], [1]), ([], []), ([], []), ([4], [4]), ([3, 5], [3, 5]), ([6], [6]), ([], []), ([], []), ([9], [9]), ([8, 10], [8, 10]), ([11], [11]), ([12], [12]), ([13], [13]), ([7, 14], [7, 14]), ([0, 2, 0, 1, 2, 3, 4, 5, 6, 7, 8, 9, 10, 11, 12, 13, 14, 15], [0, 2]), ([16, 15, 15, 0, 1, 2, 3, 4, 5, 6, 7, 8, 9, 10, 11, 12, 13, 14, 15], [15, 16])])
def impl_needs.B6 : List Nat := [0, 0, 2, 0, 0, 16, 56, 120, 0, 0, 512, 1792, 3840, 7936, 16128, 32760, 65535, 131071]
theorem impl_needs.tab6 : rtab .any (opsOf Try.f76 6) = impl_needs.T6 := by kernel_rfl
theorem impl_needs.bits6 : waitsOk impl_needs.T6.2 impl_needs.B6 = true := by kernel_rfl
def impl_needs.f (k : Nat) (l0 : List (S98)) : Option ((List (List Int))) := if 3 ≤ 11728124029610 then (impl_needs.l0 k l0 (List.replicate 3 []) l0 (l0.length : Int) 0) else (none)
theorem impl_needs.mono : ∀ a0 k, LeO (impl_needs.f k a0) (impl_needs.f (k + 1) a0) := by
 intro a0 k; have ih0 := impl_needs.mono_l k
 unfold impl_needs.f
 repeat' first
   | (with_reducible exact ih0 _ _ _ _ _)
   | (with_reducible exact impl_together.mono _ _ _)
   | (with_reducible exact LeO.refl _)
   | (with_reducible exact LeO.none _)
   | (with_reducible refine LeO.ite ?_ ?_)
   | (with_reducible refine LeO.bind ?_ (fun _ => ?_))
   | exact ih0 _ _ _ _ _
   | exact impl_together.mono _ _ _
   | exact LeO.none _
   | refine LeO.ite ?_ ?_
   | refine LeO.bind ?_ (fun _ => ?_)
set_option maxHeartbeats 8000000 in
set_option maxRecDepth 100000 in
theorem impl_needs.calls (k : Nat) (A0 : Option Addr) (c0 : Nat) (l0 : List (S98)) (r : List (List Int)) (w : World) (hr0 : Kd.C k98 w A0 l0.length l0) (hc0 : l0.length ≤ c0) (h : impl_needs.f k l0 = some r) :
  Calls Try.prog 76 #[.slice A0 l0.length c0] w fun e w' => ∃ v0_ : Value, e = .returned (v0_) ∧ Kd.S (Kd.slice 3 (Kd.int .i64)) 37 w' w.heap.size (fun _ => True) v0_ r ∧ Below w.heap.size w w' := by
 have hu98 := Try.underlying98; have HR0 := Aside0.mk hr0; have HC0 := Aside0.mk hc0; clear hr0 hc0; have HB := Aside0.mk (Below.refl w.heap.size w); have H : (if 3 ≤ 11728124029610 then (impl_needs.l0 k l0 (List.replicate 3 []) l0 (l0.length : Int) 0) else (none)) = some r := h; clear h
 by_cases c2 : 3 ≤ 11728124029610
 ·rw [if_pos c2] at H
  have c2b0 := eq_true c2; have c2b1 : decide (3 ≤ 11728124029610) = true := decide_eq_true c2; clear c2; obtain ⟨y199, hy199⟩ : ∃ y_ : List (List Int), y_ = (List.replicate 3 []) := ⟨_, rfl⟩
  replace H : (impl_needs.l0 k l0 y199 l0 (l0.length : Int) 0) = some r := by first | (rw [hy199]; with_reducible exact H) | (have H2_ := (Option.bind_some _ _).symm.trans H; rw [hy199]; with_reducible exact H2_) | (have H2_ := (Option.bind_some _ _).symm.trans H; with_reducible exact H2_) | with_reducible exact H | (rw [hy199]; exact H) | exact H
  have Ny199 := Aside0.mk hy199; clear hy199; have H' := Aside0.mk H; clear H
  go_enter Try.func76, Try.ntmps76
  go_wp2_with (first | ((with_reducible refine gate_dst (N := 6) rfl ?_); refine Kd.S_make (Kd.slice 3 (Kd.int .i64)) _ 37 rfl (N := 6) rfl 44 _ _ rfl 3 rfl rfl Try.underlying44 (.slice none 0 0) 24 info37 rfl (by decide) (by omega) [] (ok := fun k_ => w.heap.size ≤ k_) (okp := fun _ => False) ⟨_, rfl, Kd.R_nil _ _ _ _ _⟩ (fun _ hk => hk.elim) (Nat.le_refl _) (by omega) (by omega) (Below.refl _ _) (Nat.le_refl _) ?_; intro v200 w3 ho4 hb hg_ hnew_; clear hg_ hnew_; (first | rw [← Ny199.out] at ho4 | (simp only [Int.reduceToNat] at ho4; rw [← Ny199.out] at ho4)); have n0_ := Aside0.mk (Kd.S_lower (Kd.S_mono (ok' := fun k_ => (w.heap.size ≤ k_)) ho4 (fun k_ hk_ => (Nat.le_trans (below_size (by repeat first | exact HB.out | apply below_alloc | apply pw_below_drewN | apply below_drew1)) hk_))) (below_size (by repeat first | exact HB.out | apply below_alloc | apply pw_below_drewN | apply below_drew1))); have n1_ := Aside0.mk (below_step (by repeat first | exact HB.out | apply below_alloc | apply pw_below_drewN | apply below_drew1) hb); clear HB; have HO201 := n0_; have HB := n1_; clear n0_ n1_; clear hb ho4))
  go_loopg [9] k (fun kq v9 w' => ∃ (x3_1 : List (List Int)) (x9_1 : Int), v9 = .int .i64 x9_1 ∧ Aside0 (impl_needs.l0 kq l0 x3_1 l0 (l0.length : Int) x9_1 = some r) ∧ Aside0 (kq ≤ k) ∧ Aside0 (Kd.S (Kd.slice 3 (Kd.int .i64)) 37 w' w.heap.size (fun k_ => (w.heap.size ≤ k_)) v200 x3_1) ∧ Aside0 (Below w.heap.size w w'))
  case atStart => exact ⟨(y199), (0), (by first | rfl | (simp; done) | (simp [*]; done)), H', ⟨Nat.le_refl _⟩, ⟨by (with_reducible repeat (first | apply Kd.S_alloc | apply Kd.S_drewN | apply Kd.S_drew)); exact HO201.out⟩, ⟨by repeat first | exact HB.out | apply below_alloc | apply pw_below_drewN | apply below_drew1⟩⟩
  case round =>
   clear H'
   try clear c2
   try clear c2b0
   try clear c2b1
   try clear p2
   obtain ⟨x3_1, x9_1, rfl, HA, HK1, HO_3, HB⟩ := hrel; cases gk with
   | zero => exact absurd HA.out (by simp [impl_needs.l0])
   | succ k1 =>
    have H := HA.out; clear HA
    simp only [impl_needs.l0] at H
    by_cases c5 : x9_1 < (l0.length : Int)
    ·rw [if_pos c5] at H
     have c5b0 : decide (x9_1 < (l0.length : Int)) = true := decide_eq_true c5; clear c5
     by_cases c6 : 0 ≤ x9_1
     ·rw [if_pos c6] at H
      have c6b0 : decide (0 ≤ x9_1) = true := decide_eq_true c6; clear c6
      by_cases c7 : x9_1 < (l0.length : Int)
      ·rw [if_pos c7] at H
       have c7b0 : decide (x9_1 < (l0.length : Int)) = true := decide_eq_true c7; clear c7
       by_cases c8 : ((rd_T98 l0 x9_1).f0) = 1
       ·rw [if_pos c8] at H
        have c8b0 : (((rd_T98 l0 x9_1).f0) == 1) = true := beq_iff_eq.mpr c8; have c8b1 : (((rd_T98 l0 x9_1).f0) != 1) = false := bne_eq_false_iff_eq.mpr c8; clear c8; have H' := Aside0.mk H; clear H; have p202 : 0 ≤ (x9_1 : Int) := of_decide_eq_true (by first | (with_reducible assumption) | assumption); have q202 : x9_1 < (l0.length : Int) := of_decide_eq_true (by first | (with_reducible assumption) | assumption); obtain ⟨ad202, e202, hx202_0, hx202_1, hx202_2, hx202_3, hx202_4⟩ := at_T98 HR0.out x9_1 p202 q202; cases e202; replace hx202_0 := (HB.out.cell (World.block_lt_of_cell? w _ hx202_0)).trans hx202_0; replace hx202_1 := (HB.out.cell (World.block_lt_of_cell? w _ hx202_1)).trans hx202_1; replace hx202_2 := (HB.out.cell (World.block_lt_of_cell? w _ hx202_2)).trans hx202_2; replace hx202_3 := (HB.out.cell (World.block_lt_of_cell? w _ hx202_3)).trans hx202_3; replace hx202_4 := (HB.out.cell (World.block_lt_of_cell? w _ hx202_4)).trans hx202_4; replace p202 := eq_true p202; replace q202 := eq_true q202
        try go_wp2_with (first | ((with_reducible refine gate_dst (N := 5) rfl ?_); refine box_event ?hg (N := 5) ?hd (cs := #[.int .i64 0, .int .i64 0, .int .i64 0, .int .i64 0, .int .i64 0]) (t := 98) ?hr ?_; (case hd => rfl); (case hg => rfl); (case hr => first | (go_simp; done) | (go_simp; rfl)); intro gb203 hg w9 hbox hb; have n0_ := Aside0.mk (Kd.S_below (Kd.S_elderB (by (with_reducible repeat (first | apply Kd.S_alloc | apply Kd.S_drewN | apply Kd.S_drew)); exact HO_3.out) gb203 (Nat.le_of_eq hg.symm)) hb); have n1_ := Aside0.mk (below_step (by repeat first | exact HB.out | apply below_alloc | apply pw_below_drewN | apply below_drew1) hb); have n2_ := Aside0.mk (hbox); have n3_ := Aside0.mk ((by rw [hg]; exact (below_size (by repeat first | exact HB.out | apply below_alloc | apply pw_below_drewN | apply below_drew1)) : w.heap.size ≤ gb203)); have n4_ := Aside0.mk ((by rw [hg]; exact (below_size (by repeat first | exact HB.out | apply below_alloc | apply pw_below_drewN | apply below_drew1)) : w.heap.size ≤ gb203)); clear HO_3; clear HB; have HO_3 := n0_; have HB := n1_; have BK203 := n2_; have GW203 := n3_; have GE203 := n4_; clear n0_ n1_ n2_ n3_ n4_; clear hb hbox hg; have hcz10_0 : w9.cell? ⟨gb203, 0, none⟩ = some (.int .i64 0) := (blk_cell BK203.out 0).trans rfl; have hcz10_1 : w9.cell? ⟨gb203, 1, none⟩ = some (.int .i64 0) := (blk_cell BK203.out 1).trans rfl; have hcz10_2 : w9.cell? ⟨gb203, 2, none⟩ = some (.int .i64 0) := (blk_cell BK203.out 2).trans rfl; have hcz10_3 : w9.cell? ⟨gb203, 3, none⟩ = some (.int .i64 0) := (blk_cell BK203.out 3).trans rfl; have hcz10_4 : w9.cell? ⟨gb203, 4, none⟩ = some (.int .i64 0) := (blk_cell BK203.out 4).trans rfl; have hfz10_0 := blk_frozen BK203.out 0; have hfz10_1 := blk_frozen BK203.out 1; have hfz10_2 := blk_frozen BK203.out 2; have hfz10_3 := blk_frozen BK203.out 3; have hfz10_4 := blk_frozen BK203.out 4))
        have n0_ : Aside0 (Kd.S (Kd.slice 3 (Kd.int .i64)) 37 (((((w9.setCell ⟨gb203, 0, none⟩ (.int .i64 ((rd_T98 l0 x9_1).f0))).setCell ⟨gb203, 1, none⟩ (.int .i64 ((rd_T98 l0 x9_1).f1))).setCell ⟨gb203, 2, none⟩ (.int .i64 ((rd_T98 l0 x9_1).f2))).setCell ⟨gb203, 3, none⟩ (.int .i64 ((rd_T98 l0 x9_1).f3))).setCell ⟨gb203, 4, none⟩ (.int .i64 ((rd_T98 l0 x9_1).f4))) w.heap.size (fun k_ => (w.heap.size ≤ k_) ∧ k_ ≠ gb203) v200 x3_1) := ⟨by (with_reducible repeat (first | apply Kd.S_alloc | apply Kd.S_drewN | apply Kd.S_drew)); exact Kd.S_mono (Kd.S_far (p := ⟨gb203, 4, none⟩) (Kd.S_far (p := ⟨gb203, 3, none⟩) (Kd.S_far (p := ⟨gb203, 2, none⟩) (Kd.S_far (p := ⟨gb203, 1, none⟩) (Kd.S_far (p := ⟨gb203, 0, none⟩) (Kd.S_mono HO_3.out (fun k_ hk => (⟨hk, hk.2⟩ : _ ∧ k_ ≠ gb203))) (fun _ hk => hk.2) (.int .i64 ((rd_T98 l0 x9_1).f0))) (fun _ hk => hk.2) (.int .i64 ((rd_T98 l0 x9_1).f1))) (fun _ hk => hk.2) (.int .i64 ((rd_T98 l0 x9_1).f2))) (fun _ hk => hk.2) (.int .i64 ((rd_T98 l0 x9_1).f3))) (fun _ hk => hk.2) (.int .i64 ((rd_T98 l0 x9_1).f4))) (fun _ hk => ⟨hk.1.1, hk.1.2⟩)⟩
        have n1_ : Aside0 ((((((w9.setCell ⟨gb203, 0, none⟩ (.int .i64 ((rd_T98 l0 x9_1).f0))).setCell ⟨gb203, 1, none⟩ (.int .i64 ((rd_T98 l0 x9_1).f1))).setCell ⟨gb203, 2, none⟩ (.int .i64 ((rd_T98 l0 x9_1).f2))).setCell ⟨gb203, 3, none⟩ (.int .i64 ((rd_T98 l0 x9_1).f3))).setCell ⟨gb203, 4, none⟩ (.int .i64 ((rd_T98 l0 x9_1).f4))).heap[gb203]? = some (.cells #[.int .i64 ((rd_T98 l0 x9_1).f0), .int .i64 ((rd_T98 l0 x9_1).f1), .int .i64 ((rd_T98 l0 x9_1).f2), .int .i64 ((rd_T98 l0 x9_1).f3), .int .i64 ((rd_T98 l0 x9_1).f4)] 98 (0, 0))) := ⟨by (with_reducible repeat (first | refine blk_drewN ?_ _ | refine blk_drew ?_ | refine blk_alloc ?_ _)); refine blk_put (cs := #[.int .i64 ((rd_T98 l0 x9_1).f0), .int .i64 ((rd_T98 l0 x9_1).f1), .int .i64 ((rd_T98 l0 x9_1).f2), .int .i64 ((rd_T98 l0 x9_1).f3), .int .i64 0]) ?_ 4 _ rfl; (with_reducible repeat (first | refine blk_drewN ?_ _ | refine blk_drew ?_ | refine blk_alloc ?_ _)); refine blk_put (cs := #[.int .i64 ((rd_T98 l0 x9_1).f0), .int .i64 ((rd_T98 l0 x9_1).f1), .int .i64 ((rd_T98 l0 x9_1).f2), .int .i64 0, .int .i64 0]) ?_ 3 _ rfl; (with_reducible repeat (first | refine blk_drewN ?_ _ | refine blk_drew ?_ | refine blk_alloc ?_ _)); refine blk_put (cs := #[.int .i64 ((rd_T98 l0 x9_1).f0), .int .i64 ((rd_T98 l0 x9_1).f1), .int .i64 0, .int .i64 0, .int .i64 0]) ?_ 2 _ rfl; (with_reducible repeat (first | refine blk_drewN ?_ _ | refine blk_drew ?_ | refine blk_alloc ?_ _)); refine blk_put (cs := #[.int .i64 ((rd_T98 l0 x9_1).f0), .int .i64 0, .int .i64 0, .int .i64 0, .int .i64 0]) ?_ 1 _ rfl; (with_reducible repeat (first | refine blk_drewN ?_ _ | refine blk_drew ?_ | refine blk_alloc ?_ _)); refine blk_put (cs := #[.int .i64 0, .int .i64 0, .int .i64 0, .int .i64 0, .int .i64 0]) ?_ 0 _ rfl; (with_reducible repeat (first | refine blk_drewN ?_ _ | refine blk_drew ?_ | refine blk_alloc ?_ _)); exact BK203.out⟩
        have n2_ : Aside0 (Below w.heap.size w (((((w9.setCell ⟨gb203, 0, none⟩ (.int .i64 ((rd_T98 l0 x9_1).f0))).setCell ⟨gb203, 1, none⟩ (.int .i64 ((rd_T98 l0 x9_1).f1))).setCell ⟨gb203, 2, none⟩ (.int .i64 ((rd_T98 l0 x9_1).f2))).setCell ⟨gb203, 3, none⟩ (.int .i64 ((rd_T98 l0 x9_1).f3))).setCell ⟨gb203, 4, none⟩ (.int .i64 ((rd_T98 l0 x9_1).f4)))) := ⟨by repeat (first | (with_reducible first | exact HB.out | apply below_alloc | apply pw_below_drewN | apply below_drew1 | refine below_set ?_ GE203.out) | exact HB.out)⟩
        (try clear HO_3)
        (try clear BK203)
        (try clear HB)
        generalize (((((w9.setCell ⟨gb203, 0, none⟩ (.int .i64 ((rd_T98 l0 x9_1).f0))).setCell ⟨gb203, 1, none⟩ (.int .i64 ((rd_T98 l0 x9_1).f1))).setCell ⟨gb203, 2, none⟩ (.int .i64 ((rd_T98 l0 x9_1).f2))).setCell ⟨gb203, 3, none⟩ (.int .i64 ((rd_T98 l0 x9_1).f3))).setCell ⟨gb203, 4, none⟩ (.int .i64 ((rd_T98 l0 x9_1).f4))) = w11 at n0_ n1_ n2_ ⊢
        have HO_3 := n0_; have BK203 := n1_; have HB := n2_; clear n0_ n1_ n2_; have n0_ := Aside0.mk (Kd.S_drew HO_3.out); have n1_ := Aside0.mk (blk_drew BK203.out); have n2_ := Aside0.mk (below_drew1 HB.out); clear HO_3; clear BK203; clear HB; have HO_3 := n0_; have BK203 := n1_; have HB := n2_; clear n0_ n1_ n2_; refine start_ (n := 14) (S := fun w' => w'.cell? ⟨gb203, 0, none⟩ = some (.int .i64 ((rd_T98 l0 x9_1).f0)) ∧ w'.cell? ⟨gb203, 1, none⟩ = some (.int .i64 ((rd_T98 l0 x9_1).f1)) ∧ w'.cell? ⟨gb203, 2, none⟩ = some (.int .i64 ((rd_T98 l0 x9_1).f2)) ∧ w'.cell? ⟨gb203, 3, none⟩ = some (.int .i64 ((rd_T98 l0 x9_1).f3)) ∧ w'.cell? ⟨gb203, 4, none⟩ = some (.int .i64 ((rd_T98 l0 x9_1).f4))) (ds := []) #[false, false, false, false, false, false, false, false, false, false, false, false, false, false] (by kernel_rfl) rfl rfl ⟨(blk_cell BK203.out 0).trans rfl, (blk_cell BK203.out 1).trans rfl, (blk_cell BK203.out 2).trans rfl, (blk_cell BK203.out 3).trans rfl, (blk_cell BK203.out 4).trans rfl⟩ (fun hHeld => ?_); refine with_tabW impl_needs.tab5 impl_needs.bits5 (fun HT_ HW_ => ?_)
        generalize w11.drew = w12 at HO_3 BK203 HB hHeld ⊢
        refine pure_ (i := 0) (N := some 13) (v := ?_) (a' := ?_) #[true, false, false, false, false, false, false, false, false, false, false, false, false, false] rfl rfl (any_of HT_.out (by kernel_rfl)) (fun _ _ _ h => h) (Or.inl ⟨by rfl, ?_⟩) ?_ ?_; rotate_left
        ·intro w'
         go_simp
         with_reducible rfl
        rotate_left
        ·simp only [Act.put, List.setIfInBounds_toArray, List.set_cons_zero, List.set_cons_succ, i64_w, i32_w]
         rfl
        refine take_ (i := 1) (N := some 14) (v := ?_) (a' := ?_) #[true, true, false, false, false, false, false, false, false, false, false, false, false, false] rfl rfl (take_ofW HT_.out HW_.out (by kernel_rfl)) (fun _ _ _ h => h) (Or.inl ⟨by rfl, ?_⟩) hHeld ?_ ?_; rotate_left
        ·rintro w' ⟨s0, s1, s2, s3, s4⟩
         go_simp
         with_reducible rfl
        rotate_left
        ·simp only [Act.put, List.setIfInBounds_toArray, List.set_cons_zero, List.set_cons_succ, i64_w, i32_w]
         rfl
        refine pure_ (i := 2) (N := some 15) (v := ?_) (a' := ?_) #[true, true, true, false, false, false, false, false, false, false, false, false, false, false] rfl rfl (any_of HT_.out (by kernel_rfl)) (fun _ _ _ h => h) (Or.inl ⟨by rfl, ?_⟩) ?_ ?_; rotate_left
        ·intro w'
         go_simp
         with_reducible rfl
        rotate_left
        ·simp only [Act.put, List.setIfInBounds_toArray, List.set_cons_zero, List.set_cons_succ, i64_w, i32_w]
         rfl
        refine pure_ (i := 3) (N := some 16) (v := ?_) (a' := ?_) #[true, true, true, true, false, false, false, false, false, false, false, false, false, false] rfl rfl (any_of HT_.out (by kernel_rfl)) (fun _ _ _ h => h) (Or.inl ⟨by rfl, ?_⟩) ?_ ?_; rotate_left
        ·intro w'
         go_simp
         with_reducible rfl
        rotate_left
        ·simp only [Act.put, List.setIfInBounds_toArray, List.set_cons_zero, List.set_cons_succ, i64_w, i32_w]
         rfl
        refine pure_ (i := 4) (N := some 17) (v := undef) (a' := ?_) #[true, true, true, true, true, false, false, false, false, false, false, false, false, false] rfl rfl (any_of HT_.out (by kernel_rfl)) (fun _ _ _ h => h) (Or.inr ⟨by rfl, rfl⟩) ?_ ?_; rotate_left
        ·simp only [Act.put, List.setIfInBounds_toArray, List.set_cons_zero, List.set_cons_succ, i64_w, i32_w]
         rfl
        refine pure_ (i := 5) (N := some 18) (v := undef) (a' := ?_) #[true, true, true, true, true, true, false, false, false, false, false, false, false, false] rfl rfl (any_of HT_.out (by kernel_rfl)) (fun _ _ _ h => h) (Or.inr ⟨by rfl, rfl⟩) ?_ ?_; rotate_left
        ·simp only [Act.put, List.setIfInBounds_toArray, List.set_cons_zero, List.set_cons_succ, i64_w, i32_w]
         rfl
        refine pure_ (i := 6) (N := some 19) (v := undef) (a' := ?_) #[true, true, true, true, true, true, true, false, false, false, false, false, false, false] rfl rfl (any_of HT_.out (by kernel_rfl)) (fun _ _ _ h => h) (Or.inr ⟨by rfl, rfl⟩) ?_ ?_; rotate_left
        ·simp only [Act.put, List.setIfInBounds_toArray, List.set_cons_zero, List.set_cons_succ, i64_w, i32_w]
         rfl
        refine pure_ (i := 7) (N := some 20) (v := undef) (a' := ?_) #[true, true, true, true, true, true, true, true, false, false, false, false, false, false] rfl rfl (any_of HT_.out (by kernel_rfl)) (fun _ _ _ h => h) (Or.inr ⟨by rfl, rfl⟩) ?_ ?_; rotate_left
        ·simp only [Act.put, List.setIfInBounds_toArray, List.set_cons_zero, List.set_cons_succ, i64_w, i32_w]
         rfl
        refine pure_ (i := 8) (N := some 21) (v := undef) (a' := ?_) #[true, true, true, true, true, true, true, true, true, false, false, false, false, false] rfl rfl (any_of HT_.out (by kernel_rfl)) (fun _ _ _ h => h) (Or.inr ⟨by rfl, rfl⟩) ?_ ?_; rotate_left
        ·simp only [Act.put, List.setIfInBounds_toArray, List.set_cons_zero, List.set_cons_succ, i64_w, i32_w]
         rfl
        refine pure_ (i := 9) (N := some 22) (v := undef) (a' := ?_) #[true, true, true, true, true, true, true, true, true, true, false, false, false, false] rfl rfl (any_of HT_.out (by kernel_rfl)) (fun _ _ _ h => h) (Or.inr ⟨by rfl, rfl⟩) ?_ ?_; rotate_left
        ·simp only [Act.put, List.setIfInBounds_toArray, List.set_cons_zero, List.set_cons_succ, i64_w, i32_w]
         rfl
        refine pure_ (i := 10) (N := some 23) (v := undef) (a' := ?_) #[true, true, true, true, true, true, true, true, true, true, true, false, false, false] rfl rfl (any_of HT_.out (by kernel_rfl)) (fun _ _ _ h => h) (Or.inr ⟨by rfl, rfl⟩) ?_ ?_; rotate_left
        ·simp only [Act.put, List.setIfInBounds_toArray, List.set_cons_zero, List.set_cons_succ, i64_w, i32_w]
         rfl
        refine pure_ (i := 11) (N := some 24) (v := undef) (a' := ?_) #[true, true, true, true, true, true, true, true, true, true, true, true, false, false] rfl rfl (any_of HT_.out (by kernel_rfl)) (fun _ _ _ h => h) (Or.inr ⟨by rfl, rfl⟩) ?_ ?_; rotate_left
        ·simp only [Act.put, List.setIfInBounds_toArray, List.set_cons_zero, List.set_cons_succ, i64_w, i32_w]
         rfl
        refine pure_ (i := 12) (N := some 25) (v := undef) (a' := ?_) #[true, true, true, true, true, true, true, true, true, true, true, true, true, false] rfl rfl (any_of HT_.out (by kernel_rfl)) (fun _ _ _ h => h) (Or.inr ⟨by rfl, rfl⟩) ?_ ?_; rotate_left
        ·simp only [Act.put, List.setIfInBounds_toArray, List.set_cons_zero, List.set_cons_succ, i64_w, i32_w]
         rfl
        refine pure_ (i := 13) (N := some 26) (v := ?_) (a' := ?_) #[true, true, true, true, true, true, true, true, true, true, true, true, true, true] rfl rfl (any_of HT_.out (by kernel_rfl)) (fun _ _ _ h => h) (Or.inl ⟨by rfl, ?_⟩) ?_ ?_; rotate_left
        ·intro w'
         go_simp
         with_reducible rfl
        rotate_left
        ·simp only [Act.put, List.setIfInBounds_toArray, List.set_cons_zero, List.set_cons_succ, i64_w, i32_w]
         rfl
        refine done_ (done_of HT_.out (by kernel_rfl)) ?_
        try go_wp2
        go_roundg k1
        case measure => have := HK1.out; omega
        case rel => exact ⟨(x3_1), (wrap64 (x9_1 + 1)), (by first | rfl | (simp; done) | (simp [*]; done)), H', ⟨by have := HK1.out; omega⟩, ⟨by (with_reducible repeat (first | apply Kd.S_alloc | apply Kd.S_drewN | apply Kd.S_drew)); exact Kd.S_mono HO_3.out (fun _ hk => hk.1)⟩, ⟨by repeat (first | (with_reducible first | exact HB.out | apply below_alloc | apply pw_below_drewN | apply below_drew1 | refine below_set ?_ GE203.out) | exact HB.out)⟩⟩
       ·rw [if_neg c8] at H
        have c8b0 : (((rd_T98 l0 x9_1).f0) == 1) = false := beq_eq_false_iff_ne.mpr c8; have c8b1 : (((rd_T98 l0 x9_1).f0) != 1) = true := bne_iff_ne.mpr c8
        by_cases c13 : 0 ≤ ((rd_T98 l0 x9_1).f3)
        ·rw [if_pos c13] at H
         have c13b0 : decide (0 ≤ ((rd_T98 l0 x9_1).f3)) = true := decide_eq_true c13; clear c13
         by_cases c14 : ((rd_T98 l0 x9_1).f3) < (l0.length : Int)
         ·rw [if_pos c14] at H
          have c14b0 : decide (((rd_T98 l0 x9_1).f3) < (l0.length : Int)) = true := decide_eq_true c14; clear c14
          by_cases c15 : ((rd_T98 l0 ((rd_T98 l0 x9_1).f3)).f1) = ((rd_T98 l0 x9_1).f1)
          ·rw [if_pos c15] at H
           have c15b0 : (((rd_T98 l0 ((rd_T98 l0 x9_1).f3)).f1) == ((rd_T98 l0 x9_1).f1)) = true := beq_iff_eq.mpr c15; have c15b1 : (((rd_T98 l0 ((rd_T98 l0 x9_1).f3)).f1) != ((rd_T98 l0 x9_1).f1)) = false := bne_eq_false_iff_eq.mpr c15; clear c15; have H' := Aside0.mk H; clear H; have p202 : 0 ≤ (x9_1 : Int) := of_decide_eq_true (by first | (with_reducible assumption) | assumption); have q202 : x9_1 < (l0.length : Int) := of_decide_eq_true (by first | (with_reducible assumption) | assumption); obtain ⟨ad202, e202, hx202_0, hx202_1, hx202_2, hx202_3, hx202_4⟩ := at_T98 HR0.out x9_1 p202 q202; cases e202; replace hx202_0 := (HB.out.cell (World.block_lt_of_cell? w _ hx202_0)).trans hx202_0; replace hx202_1 := (HB.out.cell (World.block_lt_of_cell? w _ hx202_1)).trans hx202_1; replace hx202_2 := (HB.out.cell (World.block_lt_of_cell? w _ hx202_2)).trans hx202_2; replace hx202_3 := (HB.out.cell (World.block_lt_of_cell? w _ hx202_3)).trans hx202_3; replace hx202_4 := (HB.out.cell (World.block_lt_of_cell? w _ hx202_4)).trans hx202_4; replace p202 := eq_true p202; replace q202 := eq_true q202
           try go_wp2_with (first | ((with_reducible refine gate_dst (N := 5) rfl ?_); refine box_event ?hg (N := 5) ?hd (cs := #[.int .i64 0, .int .i64 0, .int .i64 0, .int .i64 0, .int .i64 0]) (t := 98) ?hr ?_; (case hd => rfl); (case hg => rfl); (case hr => first | (go_simp; done) | (go_simp; rfl)); intro gb203 hg w16 hbox hb; have n0_ := Aside0.mk (Kd.S_below (Kd.S_elderB (by (with_reducible repeat (first | apply Kd.S_alloc | apply Kd.S_drewN | apply Kd.S_drew)); exact HO_3.out) gb203 (Nat.le_of_eq hg.symm)) hb); have n1_ := Aside0.mk (below_step (by repeat first | exact HB.out | apply below_alloc | apply pw_below_drewN | apply below_drew1) hb); have n2_ := Aside0.mk (hbox); have n3_ := Aside0.mk ((by rw [hg]; exact (below_size (by repeat first | exact HB.out | apply below_alloc | apply pw_below_drewN | apply below_drew1)) : w.heap.size ≤ gb203)); have n4_ := Aside0.mk ((by rw [hg]; exact (below_size (by repeat first | exact HB.out | apply below_alloc | apply pw_below_drewN | apply below_drew1)) : w.heap.size ≤ gb203)); clear HO_3; clear HB; have HO_3 := n0_; have HB := n1_; have BK203 := n2_; have GW203 := n3_; have GE203 := n4_; clear n0_ n1_ n2_ n3_ n4_; clear hb hbox hg; have hcz17_0 : w16.cell? ⟨gb203, 0, none⟩ = some (.int .i64 0) := (blk_cell BK203.out 0).trans rfl; have hcz17_1 : w16.cell? ⟨gb203, 1, none⟩ = some (.int .i64 0) := (blk_cell BK203.out 1).trans rfl; have hcz17_2 : w16.cell? ⟨gb203, 2, none⟩ = some (.int .i64 0) := (blk_cell BK203.out 2).trans rfl; have hcz17_3 : w16.cell? ⟨gb203, 3, none⟩ = some (.int .i64 0) := (blk_cell BK203.out 3).trans rfl; have hcz17_4 : w16.cell? ⟨gb203, 4, none⟩ = some (.int .i64 0) := (blk_cell BK203.out 4).trans rfl; have hfz17_0 := blk_frozen BK203.out 0; have hfz17_1 := blk_frozen BK203.out 1; have hfz17_2 := blk_frozen BK203.out 2; have hfz17_3 := blk_frozen BK203.out 3; have hfz17_4 := blk_frozen BK203.out 4))
           have n0_ : Aside0 (Kd.S (Kd.slice 3 (Kd.int .i64)) 37 (((((w16.setCell ⟨gb203, 0, none⟩ (.int .i64 ((rd_T98 l0 x9_1).f0))).setCell ⟨gb203, 1, none⟩ (.int .i64 ((rd_T98 l0 x9_1).f1))).setCell ⟨gb203, 2, none⟩ (.int .i64 ((rd_T98 l0 x9_1).f2))).setCell ⟨gb203, 3, none⟩ (.int .i64 ((rd_T98 l0 x9_1).f3))).setCell ⟨gb203, 4, none⟩ (.int .i64 ((rd_T98 l0 x9_1).f4))) w.heap.size (fun k_ => (w.heap.size ≤ k_) ∧ k_ ≠ gb203) v200 x3_1) := ⟨by (with_reducible repeat (first | apply Kd.S_alloc | apply Kd.S_drewN | apply Kd.S_drew)); exact Kd.S_mono (Kd.S_far (p := ⟨gb203, 4, none⟩) (Kd.S_far (p := ⟨gb203, 3, none⟩) (Kd.S_far (p := ⟨gb203, 2, none⟩) (Kd.S_far (p := ⟨gb203, 1, none⟩) (Kd.S_far (p := ⟨gb203, 0, none⟩) (Kd.S_mono HO_3.out (fun k_ hk => (⟨hk, hk.2⟩ : _ ∧ k_ ≠ gb203))) (fun _ hk => hk.2) (.int .i64 ((rd_T98 l0 x9_1).f0))) (fun _ hk => hk.2) (.int .i64 ((rd_T98 l0 x9_1).f1))) (fun _ hk => hk.2) (.int .i64 ((rd_T98 l0 x9_1).f2))) (fun _ hk => hk.2) (.int .i64 ((rd_T98 l0 x9_1).f3))) (fun _ hk => hk.2) (.int .i64 ((rd_T98 l0 x9_1).f4))) (fun _ hk => ⟨hk.1.1, hk.1.2⟩)⟩
           have n1_ : Aside0 ((((((w16.setCell ⟨gb203, 0, none⟩ (.int .i64 ((rd_T98 l0 x9_1).f0))).setCell ⟨gb203, 1, none⟩ (.int .i64 ((rd_T98 l0 x9_1).f1))).setCell ⟨gb203, 2, none⟩ (.int .i64 ((rd_T98 l0 x9_1).f2))).setCell ⟨gb203, 3, none⟩ (.int .i64 ((rd_T98 l0 x9_1).f3))).setCell ⟨gb203, 4, none⟩ (.int .i64 ((rd_T98 l0 x9_1).f4))).heap[gb203]? = some (.cells #[.int .i64 ((rd_T98 l0 x9_1).f0), .int .i64 ((rd_T98 l0 x9_1).f1), .int .i64 ((rd_T98 l0 x9_1).f2), .int .i64 ((rd_T98 l0 x9_1).f3), .int .i64 ((rd_T98 l0 x9_1).f4)] 98 (0, 0))) := ⟨by (with_reducible repeat (first | refine blk_drewN ?_ _ | refine blk_drew ?_ | refine blk_alloc ?_ _)); refine blk_put (cs := #[.int .i64 ((rd_T98 l0 x9_1).f0), .int .i64 ((rd_T98 l0 x9_1).f1), .int .i64 ((rd_T98 l0 x9_1).f2), .int .i64 ((rd_T98 l0 x9_1).f3), .int .i64 0]) ?_ 4 _ rfl; (with_reducible repeat (first | refine blk_drewN ?_ _ | refine blk_drew ?_ | refine blk_alloc ?_ _)); refine blk_put (cs := #[.int .i64 ((rd_T98 l0 x9_1).f0), .int .i64 ((rd_T98 l0 x9_1).f1), .int .i64 ((rd_T98 l0 x9_1).f2), .int .i64 0, .int .i64 0]) ?_ 3 _ rfl; (with_reducible repeat (first | refine blk_drewN ?_ _ | refine blk_drew ?_ | refine blk_alloc ?_ _)); refine blk_put (cs := #[.int .i64 ((rd_T98 l0 x9_1).f0), .int .i64 ((rd_T98 l0 x9_1).f1), .int .i64 0, .int .i64 0, .int .i64 0]) ?_ 2 _ rfl; (with_reducible repeat (first | refine blk_drewN ?_ _ | refine blk_drew ?_ | refine blk_alloc ?_ _)); refine blk_put (cs := #[.int .i64 ((rd_T98 l0 x9_1).f0), .int .i64 0, .int .i64 0, .int .i64 0, .int .i64 0]) ?_ 1 _ rfl; (with_reducible repeat (first | refine blk_drewN ?_ _ | refine blk_drew ?_ | refine blk_alloc ?_ _)); refine blk_put (cs := #[.int .i64 0, .int .i64 0, .int .i64 0, .int .i64 0, .int .i64 0]) ?_ 0 _ rfl; (with_reducible repeat (first | refine blk_drewN ?_ _ | refine blk_drew ?_ | refine blk_alloc ?_ _)); exact BK203.out⟩
           have n2_ : Aside0 (Below w.heap.size w (((((w16.setCell ⟨gb203, 0, none⟩ (.int .i64 ((rd_T98 l0 x9_1).f0))).setCell ⟨gb203, 1, none⟩ (.int .i64 ((rd_T98 l0 x9_1).f1))).setCell ⟨gb203, 2, none⟩ (.int .i64 ((rd_T98 l0 x9_1).f2))).setCell ⟨gb203, 3, none⟩ (.int .i64 ((rd_T98 l0 x9_1).f3))).setCell ⟨gb203, 4, none⟩ (.int .i64 ((rd_T98 l0 x9_1).f4)))) := ⟨by repeat (first | (with_reducible first | exact HB.out | apply below_alloc | apply pw_below_drewN | apply below_drew1 | refine below_set ?_ GE203.out) | exact HB.out)⟩
           (try clear HO_3)
           (try clear BK203)
           (try clear HB)
           generalize (((((w16.setCell ⟨gb203, 0, none⟩ (.int .i64 ((rd_T98 l0 x9_1).f0))).setCell ⟨gb203, 1, none⟩ (.int .i64 ((rd_T98 l0 x9_1).f1))).setCell ⟨gb203, 2, none⟩ (.int .i64 ((rd_T98 l0 x9_1).f2))).setCell ⟨gb203, 3, none⟩ (.int .i64 ((rd_T98 l0 x9_1).f3))).setCell ⟨gb203, 4, none⟩ (.int .i64 ((rd_T98 l0 x9_1).f4))) = w18 at n0_ n1_ n2_ ⊢
           have HO_3 := n0_; have BK203 := n1_; have HB := n2_; clear n0_ n1_ n2_; have n0_ := Aside0.mk (Kd.S_drew HO_3.out); have n1_ := Aside0.mk (blk_drew BK203.out); have n2_ := Aside0.mk (below_drew1 HB.out); clear HO_3; clear BK203; clear HB; have HO_3 := n0_; have BK203 := n1_; have HB := n2_; clear n0_ n1_ n2_; have p204 : 0 ≤ (((rd_T98 l0 x9_1).f3) : Int) := of_decide_eq_true (by first | (with_reducible assumption) | assumption); have q204 : ((rd_T98 l0 x9_1).f3) < (l0.length : Int) := of_decide_eq_true (by first | (with_reducible assumption) | assumption); obtain ⟨ad204, e204, hx204_0, hx204_1, hx204_2, hx204_3, hx204_4⟩ := at_T98 HR0.out ((rd_T98 l0 x9_1).f3) p204 q204; have hw204_4 := hx204_4; have hw204_3 := hx204_3; have hw204_2 := hx204_2; have hw204_1 := hx204_1; have hw204_0 := hx204_0; obtain rfl : ad202 = ad204 := (by injection e204)
           replace hx204_0 := (HB.out.cell (World.block_lt_of_cell? w _ hx204_0)).trans hx204_0; replace hx204_1 := (HB.out.cell (World.block_lt_of_cell? w _ hx204_1)).trans hx204_1; replace hx204_2 := (HB.out.cell (World.block_lt_of_cell? w _ hx204_2)).trans hx204_2; replace hx204_3 := (HB.out.cell (World.block_lt_of_cell? w _ hx204_3)).trans hx204_3; replace hx204_4 := (HB.out.cell (World.block_lt_of_cell? w _ hx204_4)).trans hx204_4; replace p204 := eq_true p204; replace q204 := eq_true q204; refine start_ (n := 14) (S := fun w' => w'.cell? ⟨gb203, 0, none⟩ = some (.int .i64 ((rd_T98 l0 x9_1).f0)) ∧ w'.cell? ⟨gb203, 1, none⟩ = some (.int .i64 ((rd_T98 l0 x9_1).f1)) ∧ w'.cell? ⟨gb203, 2, none⟩ = some (.int .i64 ((rd_T98 l0 x9_1).f2)) ∧ w'.cell? ⟨gb203, 3, none⟩ = some (.int .i64 ((rd_T98 l0 x9_1).f3)) ∧ w'.cell? ⟨gb203, 4, none⟩ = some (.int .i64 ((rd_T98 l0 x9_1).f4)) ∧ w'.cell? (ad202.add ((((rd_T98 l0 x9_1).f3)).toNat * 5)) = some (.int .i64 ((rd_T98 l0 ((rd_T98 l0 x9_1).f3)).f0)) ∧ w'.cell? ⟨(ad202.add ((((rd_T98 l0 x9_1).f3)).toNat * 5)).block, (ad202.add ((((rd_T98 l0 x9_1).f3)).toNat * 5)).off + 1, none⟩ = some (.int .i64 ((rd_T98 l0 ((rd_T98 l0 x9_1).f3)).f1)) ∧ w'.cell? ⟨(ad202.add ((((rd_T98 l0 x9_1).f3)).toNat * 5)).block, (ad202.add ((((rd_T98 l0 x9_1).f3)).toNat * 5)).off + 2, none⟩ = some (.int .i64 ((rd_T98 l0 ((rd_T98 l0 x9_1).f3)).f2)) ∧ w'.cell? ⟨(ad202.add ((((rd_T98 l0 x9_1).f3)).toNat * 5)).block, (ad202.add ((((rd_T98 l0 x9_1).f3)).toNat * 5)).off + 3, none⟩ = some (.int .i64 ((rd_T98 l0 ((rd_T98 l0 x9_1).f3)).f3)) ∧ w'.cell? ⟨(ad202.add ((((rd_T98 l0 x9_1).f3)).toNat * 5)).block, (ad202.add ((((rd_T98 l0 x9_1).f3)).toNat * 5)).off + 4, none⟩ = some (.int .i64 ((rd_T98 l0 ((rd_T98 l0 x9_1).f3)).f4))) (ds := []) #[false, false, false, false, false, false, false, false, false, false, false, false, false, false] (by kernel_rfl) rfl rfl ⟨(blk_cell BK203.out 0).trans rfl, (blk_cell BK203.out 1).trans rfl, (blk_cell BK203.out 2).trans rfl, (blk_cell BK203.out 3).trans rfl, (blk_cell BK203.out 4).trans rfl, ((HB.out.cell (World.block_lt_of_cell? w _ hw204_0)).trans hw204_0), ((HB.out.cell (World.block_lt_of_cell? w _ hw204_1)).trans hw204_1), ((HB.out.cell (World.block_lt_of_cell? w _ hw204_2)).trans hw204_2), ((HB.out.cell (World.block_lt_of_cell? w _ hw204_3)).trans hw204_3), ((HB.out.cell (World.block_lt_of_cell? w _ hw204_4)).trans hw204_4)⟩ (fun hHeld => ?_); refine with_tabW impl_needs.tab5 impl_needs.bits5 (fun HT_ HW_ => ?_)
           generalize w18.drew = w19 at HO_3 BK203 HB hx204_0 hx204_1 hx204_2 hx204_3 hx204_4 hHeld ⊢
           refine pure_ (i := 0) (N := some 13) (v := ?_) (a' := ?_) #[true, false, false, false, false, false, false, false, false, false, false, false, false, false] rfl rfl (any_of HT_.out (by kernel_rfl)) (fun _ _ _ h => h) (Or.inl ⟨by rfl, ?_⟩) ?_ ?_; rotate_left
           ·intro w'
            go_simp
            with_reducible rfl
           rotate_left
           ·simp only [Act.put, List.setIfInBounds_toArray, List.set_cons_zero, List.set_cons_succ, i64_w, i32_w]
            rfl
           refine take_ (i := 1) (N := some 14) (v := ?_) (a' := ?_) #[true, true, false, false, false, false, false, false, false, false, false, false, false, false] rfl rfl (take_ofW HT_.out HW_.out (by kernel_rfl)) (fun _ _ _ h => h) (Or.inl ⟨by rfl, ?_⟩) hHeld ?_ ?_; rotate_left
           ·rintro w' ⟨s0, s1, s2, s3, s4, s5, s6, s7, s8, s9⟩
            go_simp
            with_reducible rfl
           rotate_left
           ·simp only [Act.put, List.setIfInBounds_toArray, List.set_cons_zero, List.set_cons_succ, i64_w, i32_w]
            rfl
           refine pure_ (i := 2) (N := some 15) (v := ?_) (a' := ?_) #[true, true, true, false, false, false, false, false, false, false, false, false, false, false] rfl rfl (any_of HT_.out (by kernel_rfl)) (fun _ _ _ h => h) (Or.inl ⟨by rfl, ?_⟩) ?_ ?_; rotate_left
           ·intro w'
            go_simp
            with_reducible rfl
           rotate_left
           ·simp only [Act.put, List.setIfInBounds_toArray, List.set_cons_zero, List.set_cons_succ, i64_w, i32_w]
            rfl
           refine pure_ (i := 3) (N := some 16) (v := ?_) (a' := ?_) #[true, true, true, true, false, false, false, false, false, false, false, false, false, false] rfl rfl (any_of HT_.out (by kernel_rfl)) (fun _ _ _ h => h) (Or.inl ⟨by rfl, ?_⟩) ?_ ?_; rotate_left
           ·intro w'
            go_simp
            with_reducible rfl
           rotate_left
           ·simp only [Act.put, List.setIfInBounds_toArray, List.set_cons_zero, List.set_cons_succ, i64_w, i32_w]
            rfl
           refine pure_ (i := 4) (N := some 17) (v := ?_) (a' := ?_) #[true, true, true, true, true, false, false, false, false, false, false, false, false, false] rfl rfl (any_of HT_.out (by kernel_rfl)) (fun _ _ _ h => h) (Or.inl ⟨by rfl, ?_⟩) ?_ ?_; rotate_left
           ·intro w'
            go_simp
            with_reducible rfl
           rotate_left
           ·simp only [Act.put, List.setIfInBounds_toArray, List.set_cons_zero, List.set_cons_succ, i64_w, i32_w]
            rfl
           refine pure_ (i := 5) (N := some 18) (v := ?_) (a' := ?_) #[true, true, true, true, true, true, false, false, false, false, false, false, false, false] rfl rfl (any_of HT_.out (by kernel_rfl)) (fun _ _ _ h => h) (Or.inl ⟨by rfl, ?_⟩) ?_ ?_; rotate_left
           ·intro w'
            go_simp
            with_reducible rfl
           rotate_left
           ·simp only [Act.put, List.setIfInBounds_toArray, List.set_cons_zero, List.set_cons_succ, i64_w, i32_w]
            rfl
           refine pure_ (i := 10) (N := some 23) (v := ?_) (a' := ?_) #[true, true, true, true, true, true, false, false, false, false, true, false, false, false] rfl rfl (any_of HT_.out (by kernel_rfl)) (fun _ _ _ h => h) (Or.inl ⟨by rfl, ?_⟩) ?_ ?_; rotate_left
           ·intro w'
            go_simp
            with_reducible rfl
           rotate_left
           ·simp only [Act.put, List.setIfInBounds_toArray, List.set_cons_zero, List.set_cons_succ, i64_w, i32_w]
            rfl
           refine take_ (i := 6) (N := some 19) (v := ?_) (a' := ?_) #[true, true, true, true, true, true, true, false, false, false, true, false, false, false] rfl rfl (take_ofW HT_.out HW_.out (by kernel_rfl)) (fun _ _ _ h => h) (Or.inl ⟨by rfl, ?_⟩) hHeld ?_ ?_; rotate_left
           ·rintro w' ⟨s0, s1, s2, s3, s4, s5, s6, s7, s8, s9⟩
            go_simp
            with_reducible rfl
           rotate_left
           ·simp only [Act.put, List.setIfInBounds_toArray, List.set_cons_zero, List.set_cons_succ, i64_w, i32_w]
            rfl
           refine pure_ (i := 7) (N := some 20) (v := ?_) (a' := ?_) #[true, true, true, true, true, true, true, true, false, false, true, false, false, false] rfl rfl (any_of HT_.out (by kernel_rfl)) (fun _ _ _ h => h) (Or.inl ⟨by rfl, ?_⟩) ?_ ?_; rotate_left
           ·intro w'
            go_simp
            with_reducible rfl
           rotate_left
           ·simp only [Act.put, List.setIfInBounds_toArray, List.set_cons_zero, List.set_cons_succ, i64_w, i32_w]
            rfl
           refine pure_ (i := 8) (N := some 21) (v := ?_) (a' := ?_) #[true, true, true, true, true, true, true, true, true, false, true, false, false, false] rfl rfl (any_of HT_.out (by kernel_rfl)) (fun _ _ _ h => h) (Or.inl ⟨by rfl, ?_⟩) ?_ ?_; rotate_left
           ·intro w'
            go_simp
            with_reducible rfl
           rotate_left
           ·simp only [Act.put, List.setIfInBounds_toArray, List.set_cons_zero, List.set_cons_succ, i64_w, i32_w]
            rfl
           refine take_ (i := 9) (N := some 22) (v := ?_) (a' := ?_) #[true, true, true, true, true, true, true, true, true, true, true, false, false, false] rfl rfl (take_ofW HT_.out HW_.out (by kernel_rfl)) (fun _ _ _ h => h) (Or.inl ⟨by rfl, ?_⟩) hHeld ?_ ?_; rotate_left
           ·rintro w' ⟨s0, s1, s2, s3, s4, s5, s6, s7, s8, s9⟩
            go_simp
            with_reducible rfl
           rotate_left
           ·simp only [Act.put, List.setIfInBounds_toArray, List.set_cons_zero, List.set_cons_succ, i64_w, i32_w]
            rfl
           refine take_ (i := 11) (N := some 24) (v := ?_) (a' := ?_) #[true, true, true, true, true, true, true, true, true, true, true, true, false, false] rfl rfl (take_ofW HT_.out HW_.out (by kernel_rfl)) (fun _ _ _ h => h) (Or.inl ⟨by rfl, ?_⟩) hHeld ?_ ?_; rotate_left
           ·rintro w' ⟨s0, s1, s2, s3, s4, s5, s6, s7, s8, s9⟩
            go_simp
            with_reducible rfl
           rotate_left
           ·simp only [Act.put, List.setIfInBounds_toArray, List.set_cons_zero, List.set_cons_succ, i64_w, i32_w]
            rfl
           refine pure_ (i := 12) (N := some 25) (v := ?_) (a' := ?_) #[true, true, true, true, true, true, true, true, true, true, true, true, true, false] rfl rfl (any_of HT_.out (by kernel_rfl)) (fun _ _ _ h => h) (Or.inl ⟨by rfl, ?_⟩) ?_ ?_; rotate_left
           ·intro w'
            go_simp
            with_reducible rfl
           rotate_left
           ·simp only [Act.put, List.setIfInBounds_toArray, List.set_cons_zero, List.set_cons_succ, i64_w, i32_w]
            rfl
           refine pure_ (i := 13) (N := some 26) (v := ?_) (a' := ?_) #[true, true, true, true, true, true, true, true, true, true, true, true, true, true] rfl rfl (any_of HT_.out (by kernel_rfl)) (fun _ _ _ h => h) (Or.inl ⟨by rfl, ?_⟩) ?_ ?_; rotate_left
           ·intro w'
            go_simp
            with_reducible rfl
           rotate_left
           ·simp only [Act.put, List.setIfInBounds_toArray, List.set_cons_zero, List.set_cons_succ, i64_w, i32_w]
            rfl
           refine done_ (done_of HT_.out (by kernel_rfl)) ?_
           try go_wp2
           go_roundg k1
           case measure => have := HK1.out; omega
           case rel => exact ⟨(x3_1), (wrap64 (x9_1 + 1)), (by first | rfl | (simp; done) | (simp [*]; done)), H', ⟨by have := HK1.out; omega⟩, ⟨by (with_reducible repeat (first | apply Kd.S_alloc | apply Kd.S_drewN | apply Kd.S_drew)); exact Kd.S_mono HO_3.out (fun _ hk => hk.1)⟩, ⟨by repeat (first | (with_reducible first | exact HB.out | apply below_alloc | apply pw_below_drewN | apply below_drew1 | refine below_set ?_ GE203.out) | exact HB.out)⟩⟩
          ·rw [if_neg c15] at H
           have c15b0 : (((rd_T98 l0 ((rd_T98 l0 x9_1).f3)).f1) == ((rd_T98 l0 x9_1).f1)) = false := beq_eq_false_iff_ne.mpr c15; have c15b1 : (((rd_T98 l0 ((rd_T98 l0 x9_1).f3)).f1) != ((rd_T98 l0 x9_1).f1)) = true := bne_iff_ne.mpr c15
           by_cases c20 : 0 ≤ ((rd_T98 l0 x9_1).f1)
           ·rw [if_pos c20] at H
            have c20b0 : decide (0 ≤ ((rd_T98 l0 x9_1).f1)) = true := decide_eq_true c20; clear c20
            by_cases c21 : ((rd_T98 l0 x9_1).f1) < (x3_1.length : Int)
            ·rw [if_pos c21] at H
             have c21b0 : decide (((rd_T98 l0 x9_1).f1) < (x3_1.length : Int)) = true := decide_eq_true c21; clear c21; obtain ⟨y207, hy207⟩ : ∃ y_ : List Int, y_ = (([(rd_T98 l0 ((rd_T98 l0 x9_1).f3)).f1] : List Int)) := ⟨_, rfl⟩
             replace H : ((impl_together.f k1 (rd_L3 x3_1 ((rd_T98 l0 x9_1).f1)) y207).bind fun t210 => (impl_needs.l0 k1 l0 (x3_1.set (((rd_T98 l0 x9_1).f1) : Int).toNat t210) l0 (l0.length : Int) (wrap64 (x9_1 + 1)))) = some r := by first | (rw [hy207]; with_reducible exact H) | (have H2_ := (Option.bind_some _ _).symm.trans H; rw [hy207]; with_reducible exact H2_) | (have H2_ := (Option.bind_some _ _).symm.trans H; with_reducible exact H2_) | with_reducible exact H | (rw [hy207]; exact H) | exact H
             have Ny207 := Aside0.mk hy207; clear hy207; replace H := Option.bind_eq_some_iff.mp H; obtain ⟨t210, A220, H⟩ := H; replace H : (impl_needs.l0 k1 l0 (x3_1.set (((rd_T98 l0 x9_1).f1) : Int).toNat t210) l0 (l0.length : Int) (wrap64 (x9_1 + 1))) = some r := H; have A22 := Aside0.mk A220; clear A220; obtain ⟨y213, hy213⟩ : ∃ y_ : List (List Int), y_ = (x3_1.set (((rd_T98 l0 x9_1).f1) : Int).toNat t210) := ⟨_, rfl⟩
             replace H : (impl_needs.l0 k1 l0 y213 l0 (l0.length : Int) (wrap64 (x9_1 + 1))) = some r := by first | (rw [hy213]; with_reducible exact H) | (have H2_ := (Option.bind_some _ _).symm.trans H; rw [hy213]; with_reducible exact H2_) | (have H2_ := (Option.bind_some _ _).symm.trans H; with_reducible exact H2_) | with_reducible exact H | (rw [hy213]; exact H) | exact H
             have Ny213 := Aside0.mk hy213; clear hy213; have H' := Aside0.mk H; clear H; have p202 : 0 ≤ (x9_1 : Int) := of_decide_eq_true (by first | (with_reducible assumption) | assumption); have q202 : x9_1 < (l0.length : Int) := of_decide_eq_true (by first | (with_reducible assumption) | assumption); obtain ⟨ad202, e202, hx202_0, hx202_1, hx202_2, hx202_3, hx202_4⟩ := at_T98 HR0.out x9_1 p202 q202; cases e202; replace hx202_0 := (HB.out.cell (World.block_lt_of_cell? w _ hx202_0)).trans hx202_0; replace hx202_1 := (HB.out.cell (World.block_lt_of_cell? w _ hx202_1)).trans hx202_1; replace hx202_2 := (HB.out.cell (World.block_lt_of_cell? w _ hx202_2)).trans hx202_2; replace hx202_3 := (HB.out.cell (World.block_lt_of_cell? w _ hx202_3)).trans hx202_3; replace hx202_4 := (HB.out.cell (World.block_lt_of_cell? w _ hx202_4)).trans hx202_4; replace p202 := eq_true p202; replace q202 := eq_true q202
             try go_wp2_with (first | ((with_reducible refine gate_dst (N := 5) rfl ?_); refine box_event ?hg (N := 5) ?hd (cs := #[.int .i64 0, .int .i64 0, .int .i64 0, .int .i64 0, .int .i64 0]) (t := 98) ?hr ?_; (case hd => rfl); (case hg => rfl); (case hr => first | (go_simp; done) | (go_simp; rfl)); intro gb203 hg w24 hbox hb; have n0_ := Aside0.mk (Kd.S_below (Kd.S_elderB (by (with_reducible repeat (first | apply Kd.S_alloc | apply Kd.S_drewN | apply Kd.S_drew)); exact HO_3.out) gb203 (Nat.le_of_eq hg.symm)) hb); have n1_ := Aside0.mk (below_step (by repeat first | exact HB.out | apply below_alloc | apply pw_below_drewN | apply below_drew1) hb); have n2_ := Aside0.mk (hbox); have n3_ := Aside0.mk ((by rw [hg]; exact (below_size (by repeat first | exact HB.out | apply below_alloc | apply pw_below_drewN | apply below_drew1)) : w.heap.size ≤ gb203)); have n4_ := Aside0.mk ((by rw [hg]; exact (below_size (by repeat first | exact HB.out | apply below_alloc | apply pw_below_drewN | apply below_drew1)) : w.heap.size ≤ gb203)); clear HO_3; clear HB; have HO_3 := n0_; have HB := n1_; have BK203 := n2_; have GW203 := n3_; have GE203 := n4_; clear n0_ n1_ n2_ n3_ n4_; clear hb hbox hg; have hcz25_0 : w24.cell? ⟨gb203, 0, none⟩ = some (.int .i64 0) := (blk_cell BK203.out 0).trans rfl; have hcz25_1 : w24.cell? ⟨gb203, 1, none⟩ = some (.int .i64 0) := (blk_cell BK203.out 1).trans rfl; have hcz25_2 : w24.cell? ⟨gb203, 2, none⟩ = some (.int .i64 0) := (blk_cell BK203.out 2).trans rfl; have hcz25_3 : w24.cell? ⟨gb203, 3, none⟩ = some (.int .i64 0) := (blk_cell BK203.out 3).trans rfl; have hcz25_4 : w24.cell? ⟨gb203, 4, none⟩ = some (.int .i64 0) := (blk_cell BK203.out 4).trans rfl; have hfz25_0 := blk_frozen BK203.out 0; have hfz25_1 := blk_frozen BK203.out 1; have hfz25_2 := blk_frozen BK203.out 2; have hfz25_3 := blk_frozen BK203.out 3; have hfz25_4 := blk_frozen BK203.out 4))
             have n0_ : Aside0 (Kd.S (Kd.slice 3 (Kd.int .i64)) 37 (((((w24.setCell ⟨gb203, 0, none⟩ (.int .i64 ((rd_T98 l0 x9_1).f0))).setCell ⟨gb203, 1, none⟩ (.int .i64 ((rd_T98 l0 x9_1).f1))).setCell ⟨gb203, 2, none⟩ (.int .i64 ((rd_T98 l0 x9_1).f2))).setCell ⟨gb203, 3, none⟩ (.int .i64 ((rd_T98 l0 x9_1).f3))).setCell ⟨gb203, 4, none⟩ (.int .i64 ((rd_T98 l0 x9_1).f4))) w.heap.size (fun k_ => (w.heap.size ≤ k_) ∧ k_ ≠ gb203) v200 x3_1) := ⟨by (with_reducible repeat (first | apply Kd.S_alloc | apply Kd.S_drewN | apply Kd.S_drew)); exact Kd.S_mono (Kd.S_far (p := ⟨gb203, 4, none⟩) (Kd.S_far (p := ⟨gb203, 3, none⟩) (Kd.S_far (p := ⟨gb203, 2, none⟩) (Kd.S_far (p := ⟨gb203, 1, none⟩) (Kd.S_far (p := ⟨gb203, 0, none⟩) (Kd.S_mono HO_3.out (fun k_ hk => (⟨hk, hk.2⟩ : _ ∧ k_ ≠ gb203))) (fun _ hk => hk.2) (.int .i64 ((rd_T98 l0 x9_1).f0))) (fun _ hk => hk.2) (.int .i64 ((rd_T98 l0 x9_1).f1))) (fun _ hk => hk.2) (.int .i64 ((rd_T98 l0 x9_1).f2))) (fun _ hk => hk.2) (.int .i64 ((rd_T98 l0 x9_1).f3))) (fun _ hk => hk.2) (.int .i64 ((rd_T98 l0 x9_1).f4))) (fun _ hk => ⟨hk.1.1, hk.1.2⟩)⟩
             have n1_ : Aside0 ((((((w24.setCell ⟨gb203, 0, none⟩ (.int .i64 ((rd_T98 l0 x9_1).f0))).setCell ⟨gb203, 1, none⟩ (.int .i64 ((rd_T98 l0 x9_1).f1))).setCell ⟨gb203, 2, none⟩ (.int .i64 ((rd_T98 l0 x9_1).f2))).setCell ⟨gb203, 3, none⟩ (.int .i64 ((rd_T98 l0 x9_1).f3))).setCell ⟨gb203, 4, none⟩ (.int .i64 ((rd_T98 l0 x9_1).f4))).heap[gb203]? = some (.cells #[.int .i64 ((rd_T98 l0 x9_1).f0), .int .i64 ((rd_T98 l0 x9_1).f1), .int .i64 ((rd_T98 l0 x9_1).f2), .int .i64 ((rd_T98 l0 x9_1).f3), .int .i64 ((rd_T98 l0 x9_1).f4)] 98 (0, 0))) := ⟨by (with_reducible repeat (first | refine blk_drewN ?_ _ | refine blk_drew ?_ | refine blk_alloc ?_ _)); refine blk_put (cs := #[.int .i64 ((rd_T98 l0 x9_1).f0), .int .i64 ((rd_T98 l0 x9_1).f1), .int .i64 ((rd_T98 l0 x9_1).f2), .int .i64 ((rd_T98 l0 x9_1).f3), .int .i64 0]) ?_ 4 _ rfl; (with_reducible repeat (first | refine blk_drewN ?_ _ | refine blk_drew ?_ | refine blk_alloc ?_ _)); refine blk_put (cs := #[.int .i64 ((rd_T98 l0 x9_1).f0), .int .i64 ((rd_T98 l0 x9_1).f1), .int .i64 ((rd_T98 l0 x9_1).f2), .int .i64 0, .int .i64 0]) ?_ 3 _ rfl; (with_reducible repeat (first | refine blk_drewN ?_ _ | refine blk_drew ?_ | refine blk_alloc ?_ _)); refine blk_put (cs := #[.int .i64 ((rd_T98 l0 x9_1).f0), .int .i64 ((rd_T98 l0 x9_1).f1), .int .i64 0, .int .i64 0, .int .i64 0]) ?_ 2 _ rfl; (with_reducible repeat (first | refine blk_drewN ?_ _ | refine blk_drew ?_ | refine blk_alloc ?_ _)); refine blk_put (cs := #[.int .i64 ((rd_T98 l0 x9_1).f0), .int .i64 0, .int .i64 0, .int .i64 0, .int .i64 0]) ?_ 1 _ rfl; (with_reducible repeat (first | refine blk_drewN ?_ _ | refine blk_drew ?_ | refine blk_alloc ?_ _)); refine blk_put (cs := #[.int .i64 0, .int .i64 0, .int .i64 0, .int .i64 0, .int .i64 0]) ?_ 0 _ rfl; (with_reducible repeat (first | refine blk_drewN ?_ _ | refine blk_drew ?_ | refine blk_alloc ?_ _)); exact BK203.out⟩
             have n2_ : Aside0 (Below w.heap.size w (((((w24.setCell ⟨gb203, 0, none⟩ (.int .i64 ((rd_T98 l0 x9_1).f0))).setCell ⟨gb203, 1, none⟩ (.int .i64 ((rd_T98 l0 x9_1).f1))).setCell ⟨gb203, 2, none⟩ (.int .i64 ((rd_T98 l0 x9_1).f2))).setCell ⟨gb203, 3, none⟩ (.int .i64 ((rd_T98 l0 x9_1).f3))).setCell ⟨gb203, 4, none⟩ (.int .i64 ((rd_T98 l0 x9_1).f4)))) := ⟨by repeat (first | (with_reducible first | exact HB.out | apply below_alloc | apply pw_below_drewN | apply below_drew1 | refine below_set ?_ GE203.out) | exact HB.out)⟩
             (try clear HO_3)
             (try clear BK203)
             (try clear HB)
             generalize (((((w24.setCell ⟨gb203, 0, none⟩ (.int .i64 ((rd_T98 l0 x9_1).f0))).setCell ⟨gb203, 1, none⟩ (.int .i64 ((rd_T98 l0 x9_1).f1))).setCell ⟨gb203, 2, none⟩ (.int .i64 ((rd_T98 l0 x9_1).f2))).setCell ⟨gb203, 3, none⟩ (.int .i64 ((rd_T98 l0 x9_1).f3))).setCell ⟨gb203, 4, none⟩ (.int .i64 ((rd_T98 l0 x9_1).f4))) = w26 at n0_ n1_ n2_ ⊢
             have HO_3 := n0_; have BK203 := n1_; have HB := n2_; clear n0_ n1_ n2_; have n0_ := Aside0.mk (Kd.S_drew HO_3.out); have n1_ := Aside0.mk (blk_drew BK203.out); have n2_ := Aside0.mk (below_drew1 HB.out); clear HO_3; clear BK203; clear HB; have HO_3 := n0_; have BK203 := n1_; have HB := n2_; clear n0_ n1_ n2_; have p204 : 0 ≤ (((rd_T98 l0 x9_1).f3) : Int) := of_decide_eq_true (by first | (with_reducible assumption) | assumption); have q204 : ((rd_T98 l0 x9_1).f3) < (l0.length : Int) := of_decide_eq_true (by first | (with_reducible assumption) | assumption); obtain ⟨ad204, e204, hx204_0, hx204_1, hx204_2, hx204_3, hx204_4⟩ := at_T98 HR0.out ((rd_T98 l0 x9_1).f3) p204 q204; have hw204_4 := hx204_4; have hw204_3 := hx204_3; have hw204_2 := hx204_2; have hw204_1 := hx204_1; have hw204_0 := hx204_0; obtain rfl : ad202 = ad204 := (by injection e204)
             replace hx204_0 := (HB.out.cell (World.block_lt_of_cell? w _ hx204_0)).trans hx204_0; replace hx204_1 := (HB.out.cell (World.block_lt_of_cell? w _ hx204_1)).trans hx204_1; replace hx204_2 := (HB.out.cell (World.block_lt_of_cell? w _ hx204_2)).trans hx204_2; replace hx204_3 := (HB.out.cell (World.block_lt_of_cell? w _ hx204_3)).trans hx204_3; replace hx204_4 := (HB.out.cell (World.block_lt_of_cell? w _ hx204_4)).trans hx204_4; replace p204 := eq_true p204; replace q204 := eq_true q204; refine start_ (n := 14) (S := fun w' => w'.cell? ⟨gb203, 0, none⟩ = some (.int .i64 ((rd_T98 l0 x9_1).f0)) ∧ w'.cell? ⟨gb203, 1, none⟩ = some (.int .i64 ((rd_T98 l0 x9_1).f1)) ∧ w'.cell? ⟨gb203, 2, none⟩ = some (.int .i64 ((rd_T98 l0 x9_1).f2)) ∧ w'.cell? ⟨gb203, 3, none⟩ = some (.int .i64 ((rd_T98 l0 x9_1).f3)) ∧ w'.cell? ⟨gb203, 4, none⟩ = some (.int .i64 ((rd_T98 l0 x9_1).f4)) ∧ w'.cell? (ad202.add ((((rd_T98 l0 x9_1).f3)).toNat * 5)) = some (.int .i64 ((rd_T98 l0 ((rd_T98 l0 x9_1).f3)).f0)) ∧ w'.cell? ⟨(ad202.add ((((rd_T98 l0 x9_1).f3)).toNat * 5)).block, (ad202.add ((((rd_T98 l0 x9_1).f3)).toNat * 5)).off + 1, none⟩ = some (.int .i64 ((rd_T98 l0 ((rd_T98 l0 x9_1).f3)).f1)) ∧ w'.cell? ⟨(ad202.add ((((rd_T98 l0 x9_1).f3)).toNat * 5)).block, (ad202.add ((((rd_T98 l0 x9_1).f3)).toNat * 5)).off + 2, none⟩ = some (.int .i64 ((rd_T98 l0 ((rd_T98 l0 x9_1).f3)).f2)) ∧ w'.cell? ⟨(ad202.add ((((rd_T98 l0 x9_1).f3)).toNat * 5)).block, (ad202.add ((((rd_T98 l0 x9_1).f3)).toNat * 5)).off + 3, none⟩ = some (.int .i64 ((rd_T98 l0 ((rd_T98 l0 x9_1).f3)).f3)) ∧ w'.cell? ⟨(ad202.add ((((rd_T98 l0 x9_1).f3)).toNat * 5)).block, (ad202.add ((((rd_T98 l0 x9_1).f3)).toNat * 5)).off + 4, none⟩ = some (.int .i64 ((rd_T98 l0 ((rd_T98 l0 x9_1).f3)).f4))) (ds := []) #[false, false, false, false, false, false, false, false, false, false, false, false, false, false] (by kernel_rfl) rfl rfl ⟨(blk_cell BK203.out 0).trans rfl, (blk_cell BK203.out 1).trans rfl, (blk_cell BK203.out 2).trans rfl, (blk_cell BK203.out 3).trans rfl, (blk_cell BK203.out 4).trans rfl, ((HB.out.cell (World.block_lt_of_cell? w _ hw204_0)).trans hw204_0), ((HB.out.cell (World.block_lt_of_cell? w _ hw204_1)).trans hw204_1), ((HB.out.cell (World.block_lt_of_cell? w _ hw204_2)).trans hw204_2), ((HB.out.cell (World.block_lt_of_cell? w _ hw204_3)).trans hw204_3), ((HB.out.cell (World.block_lt_of_cell? w _ hw204_4)).trans hw204_4)⟩ (fun hHeld => ?_); refine with_tabW impl_needs.tab5 impl_needs.bits5 (fun HT_ HW_ => ?_)
             generalize w26.drew = w27 at HO_3 BK203 HB hx204_0 hx204_1 hx204_2 hx204_3 hx204_4 hHeld ⊢
             refine pure_ (i := 0) (N := some 13) (v := ?_) (a' := ?_) #[true, false, false, false, false, false, false, false, false, false, false, false, false, false] rfl rfl (any_of HT_.out (by kernel_rfl)) (fun _ _ _ h => h) (Or.inl ⟨by rfl, ?_⟩) ?_ ?_; rotate_left
             ·intro w'
              go_simp
              with_reducible rfl
             rotate_left
             ·simp only [Act.put, List.setIfInBounds_toArray, List.set_cons_zero, List.set_cons_succ, i64_w, i32_w]
              rfl
             refine take_ (i := 1) (N := some 14) (v := ?_) (a' := ?_) #[true, true, false, false, false, false, false, false, false, false, false, false, false, false] rfl rfl (take_ofW HT_.out HW_.out (by kernel_rfl)) (fun _ _ _ h => h) (Or.inl ⟨by rfl, ?_⟩) hHeld ?_ ?_; rotate_left
             ·rintro w' ⟨s0, s1, s2, s3, s4, s5, s6, s7, s8, s9⟩
              go_simp
              with_reducible rfl
             rotate_left
             ·simp only [Act.put, List.setIfInBounds_toArray, List.set_cons_zero, List.set_cons_succ, i64_w, i32_w]
              rfl
             refine pure_ (i := 2) (N := some 15) (v := ?_) (a' := ?_) #[true, true, true, false, false, false, false, false, false, false, false, false, false, false] rfl rfl (any_of HT_.out (by kernel_rfl)) (fun _ _ _ h => h) (Or.inl ⟨by rfl, ?_⟩) ?_ ?_; rotate_left
             ·intro w'
              go_simp
              with_reducible rfl
             rotate_left
             ·simp only [Act.put, List.setIfInBounds_toArray, List.set_cons_zero, List.set_cons_succ, i64_w, i32_w]
              rfl
             refine pure_ (i := 3) (N := some 16) (v := ?_) (a' := ?_) #[true, true, true, true, false, false, false, false, false, false, false, false, false, false] rfl rfl (any_of HT_.out (by kernel_rfl)) (fun _ _ _ h => h) (Or.inl ⟨by rfl, ?_⟩) ?_ ?_; rotate_left
             ·intro w'
              go_simp
              with_reducible rfl
             rotate_left
             ·simp only [Act.put, List.setIfInBounds_toArray, List.set_cons_zero, List.set_cons_succ, i64_w, i32_w]
              rfl
             refine pure_ (i := 4) (N := some 17) (v := ?_) (a' := ?_) #[true, true, true, true, true, false, false, false, false, false, false, false, false, false] rfl rfl (any_of HT_.out (by kernel_rfl)) (fun _ _ _ h => h) (Or.inl ⟨by rfl, ?_⟩) ?_ ?_; rotate_left
             ·intro w'
              go_simp
              with_reducible rfl
             rotate_left
             ·simp only [Act.put, List.setIfInBounds_toArray, List.set_cons_zero, List.set_cons_succ, i64_w, i32_w]
              rfl
             refine pure_ (i := 5) (N := some 18) (v := ?_) (a' := ?_) #[true, true, true, true, true, true, false, false, false, false, false, false, false, false] rfl rfl (any_of HT_.out (by kernel_rfl)) (fun _ _ _ h => h) (Or.inl ⟨by rfl, ?_⟩) ?_ ?_; rotate_left
             ·intro w'
              go_simp
              with_reducible rfl
             rotate_left
             ·simp only [Act.put, List.setIfInBounds_toArray, List.set_cons_zero, List.set_cons_succ, i64_w, i32_w]
              rfl
             refine pure_ (i := 10) (N := some 23) (v := ?_) (a' := ?_) #[true, true, true, true, true, true, false, false, false, false, true, false, false, false] rfl rfl (any_of HT_.out (by kernel_rfl)) (fun _ _ _ h => h) (Or.inl ⟨by rfl, ?_⟩) ?_ ?_; rotate_left
             ·intro w'
              go_simp
              with_reducible rfl
             rotate_left
             ·simp only [Act.put, List.setIfInBounds_toArray, List.set_cons_zero, List.set_cons_succ, i64_w, i32_w]
              rfl
             refine take_ (i := 6) (N := some 19) (v := ?_) (a' := ?_) #[true, true, true, true, true, true, true, false, false, false, true, false, false, false] rfl rfl (take_ofW HT_.out HW_.out (by kernel_rfl)) (fun _ _ _ h => h) (Or.inl ⟨by rfl, ?_⟩) hHeld ?_ ?_; rotate_left
             ·rintro w' ⟨s0, s1, s2, s3, s4, s5, s6, s7, s8, s9⟩
              go_simp
              with_reducible rfl
             rotate_left
             ·simp only [Act.put, List.setIfInBounds_toArray, List.set_cons_zero, List.set_cons_succ, i64_w, i32_w]
              rfl
             refine pure_ (i := 7) (N := some 20) (v := ?_) (a' := ?_) #[true, true, true, true, true, true, true, true, false, false, true, false, false, false] rfl rfl (any_of HT_.out (by kernel_rfl)) (fun _ _ _ h => h) (Or.inl ⟨by rfl, ?_⟩) ?_ ?_; rotate_left
             ·intro w'
              go_simp
              with_reducible rfl
             rotate_left
             ·simp only [Act.put, List.setIfInBounds_toArray, List.set_cons_zero, List.set_cons_succ, i64_w, i32_w]
              rfl
             refine pure_ (i := 8) (N := some 21) (v := ?_) (a' := ?_) #[true, true, true, true, true, true, true, true, true, false, true, false, false, false] rfl rfl (any_of HT_.out (by kernel_rfl)) (fun _ _ _ h => h) (Or.inl ⟨by rfl, ?_⟩) ?_ ?_; rotate_left
             ·intro w'
              go_simp
              with_reducible rfl
             rotate_left
             ·simp only [Act.put, List.setIfInBounds_toArray, List.set_cons_zero, List.set_cons_succ, i64_w, i32_w]
              rfl
             refine take_ (i := 9) (N := some 22) (v := ?_) (a' := ?_) #[true, true, true, true, true, true, true, true, true, true, true, false, false, false] rfl rfl (take_ofW HT_.out HW_.out (by kernel_rfl)) (fun _ _ _ h => h) (Or.inl ⟨by rfl, ?_⟩) hHeld ?_ ?_; rotate_left
             ·rintro w' ⟨s0, s1, s2, s3, s4, s5, s6, s7, s8, s9⟩
              go_simp
              with_reducible rfl
             rotate_left
             ·simp only [Act.put, List.setIfInBounds_toArray, List.set_cons_zero, List.set_cons_succ, i64_w, i32_w]
              rfl
             refine take_ (i := 11) (N := some 24) (v := ?_) (a' := ?_) #[true, true, true, true, true, true, true, true, true, true, true, true, false, false] rfl rfl (take_ofW HT_.out HW_.out (by kernel_rfl)) (fun _ _ _ h => h) (Or.inl ⟨by rfl, ?_⟩) hHeld ?_ ?_; rotate_left
             ·rintro w' ⟨s0, s1, s2, s3, s4, s5, s6, s7, s8, s9⟩
              go_simp
              with_reducible rfl
             rotate_left
             ·simp only [Act.put, List.setIfInBounds_toArray, List.set_cons_zero, List.set_cons_succ, i64_w, i32_w]
              rfl
             refine pure_ (i := 12) (N := some 25) (v := ?_) (a' := ?_) #[true, true, true, true, true, true, true, true, true, true, true, true, true, false] rfl rfl (any_of HT_.out (by kernel_rfl)) (fun _ _ _ h => h) (Or.inl ⟨by rfl, ?_⟩) ?_ ?_; rotate_left
             ·intro w'
              go_simp
              with_reducible rfl
             rotate_left
             ·simp only [Act.put, List.setIfInBounds_toArray, List.set_cons_zero, List.set_cons_succ, i64_w, i32_w]
              rfl
             refine pure_ (i := 13) (N := some 26) (v := ?_) (a' := ?_) #[true, true, true, true, true, true, true, true, true, true, true, true, true, true] rfl rfl (any_of HT_.out (by kernel_rfl)) (fun _ _ _ h => h) (Or.inl ⟨by rfl, ?_⟩) ?_ ?_; rotate_left
             ·intro w'
              go_simp
              with_reducible rfl
             rotate_left
             ·simp only [Act.put, List.setIfInBounds_toArray, List.set_cons_zero, List.set_cons_succ, i64_w, i32_w]
              rfl
             refine done_ (done_of HT_.out (by kernel_rfl)) ?_
             try go_wp2
             have n0_ := Aside0.mk (Kd.S_drew HO_3.out); have n1_ := Aside0.mk (blk_drew BK203.out); have n2_ := Aside0.mk (below_drew1 HB.out); clear HO_3; clear BK203; clear HB; have HO_3 := n0_; have BK203 := n1_; have HB := n2_; clear n0_ n1_ n2_; obtain ⟨Ao29, co29, eo29⟩ := Kd.S_slice HO_3.out
             (first | subst eo29 | (injection eo29 with f1_ f2_ f3_; have f4_ := f1_.symm; have f5_ := f3_.symm; clear f1_ f2_ f3_; subst f4_; subst f5_))
             have p205 : 0 ≤ (((rd_T98 l0 x9_1).f1) : Int) := of_decide_eq_true (by first | (with_reducible assumption) | assumption); have q205 : ((rd_T98 l0 x9_1).f1) < (x3_1.length : Int) := of_decide_eq_true (by first | (with_reducible assumption) | assumption); obtain ⟨ad205, A205_0, c205_0, e205, hx205_0, hl205_0, hi205_0⟩ := at_L3 (Kd.S_reads' HO_3.out).2.2 ((rd_T98 l0 x9_1).f1) p205 q205; cases e205; have HR205_0 := Aside0.mk hi205_0; have HC205_0 := Aside0.mk hl205_0; clear hi205_0 hl205_0; replace p205 := eq_true p205; replace q205 := eq_true q205; have p206 : 0 ≤ (((rd_T98 l0 x9_1).f3) : Int) := of_decide_eq_true (by first | (with_reducible assumption) | assumption); have q206 : ((rd_T98 l0 x9_1).f3) < (l0.length : Int) := of_decide_eq_true (by first | (with_reducible assumption) | assumption); obtain ⟨ad206, e206, hx206_0, hx206_1, hx206_2, hx206_3, hx206_4⟩ := at_T98 HR0.out ((rd_T98 l0 x9_1).f3) p206 q206; have hw206_4 := hx206_4; have hw206_3 := hx206_3; have hw206_2 := hx206_2; have hw206_1 := hx206_1; have hw206_0 := hx206_0; obtain rfl : ad202 = ad206 := (by injection e206)
             replace hx206_0 := (HB.out.cell (World.block_lt_of_cell? w _ hx206_0)).trans hx206_0; replace hx206_1 := (HB.out.cell (World.block_lt_of_cell? w _ hx206_1)).trans hx206_1; replace hx206_2 := (HB.out.cell (World.block_lt_of_cell? w _ hx206_2)).trans hx206_2; replace hx206_3 := (HB.out.cell (World.block_lt_of_cell? w _ hx206_3)).trans hx206_3; replace hx206_4 := (HB.out.cell (World.block_lt_of_cell? w _ hx206_4)).trans hx206_4; replace p206 := eq_true p206; replace q206 := eq_true q206; refine start_ (n := 18) (S := fun w' => w'.cell? ⟨gb203, 0, none⟩ = some (.int .i64 ((rd_T98 l0 x9_1).f0)) ∧ w'.cell? ⟨gb203, 1, none⟩ = some (.int .i64 ((rd_T98 l0 x9_1).f1)) ∧ w'.cell? ⟨gb203, 2, none⟩ = some (.int .i64 ((rd_T98 l0 x9_1).f2)) ∧ w'.cell? ⟨gb203, 3, none⟩ = some (.int .i64 ((rd_T98 l0 x9_1).f3)) ∧ w'.cell? ⟨gb203, 4, none⟩ = some (.int .i64 ((rd_T98 l0 x9_1).f4)) ∧ w'.cell? (ad205.add (((rd_T98 l0 x9_1).f1)).toNat) = some (.slice A205_0 (rd_L3 x3_1 ((rd_T98 l0 x9_1).f1)).length c205_0) ∧ w'.cell? (ad202.add ((((rd_T98 l0 x9_1).f3)).toNat * 5)) = some (.int .i64 ((rd_T98 l0 ((rd_T98 l0 x9_1).f3)).f0)) ∧ w'.cell? ⟨(ad202.add ((((rd_T98 l0 x9_1).f3)).toNat * 5)).block, (ad202.add ((((rd_T98 l0 x9_1).f3)).toNat * 5)).off + 1, none⟩ = some (.int .i64 ((rd_T98 l0 ((rd_T98 l0 x9_1).f3)).f1)) ∧ w'.cell? ⟨(ad202.add ((((rd_T98 l0 x9_1).f3)).toNat * 5)).block, (ad202.add ((((rd_T98 l0 x9_1).f3)).toNat * 5)).off + 2, none⟩ = some (.int .i64 ((rd_T98 l0 ((rd_T98 l0 x9_1).f3)).f2)) ∧ w'.cell? ⟨(ad202.add ((((rd_T98 l0 x9_1).f3)).toNat * 5)).block, (ad202.add ((((rd_T98 l0 x9_1).f3)).toNat * 5)).off + 3, none⟩ = some (.int .i64 ((rd_T98 l0 ((rd_T98 l0 x9_1).f3)).f3)) ∧ w'.cell? ⟨(ad202.add ((((rd_T98 l0 x9_1).f3)).toNat * 5)).block, (ad202.add ((((rd_T98 l0 x9_1).f3)).toNat * 5)).off + 4, none⟩ = some (.int .i64 ((rd_T98 l0 ((rd_T98 l0 x9_1).f3)).f4))) (ds := [17]) #[false, false, false, false, false, false, false, false, false, false, false, false, false, false, false, false, false, false] (by kernel_rfl) rfl rfl ⟨(blk_cell BK203.out 0).trans rfl, (blk_cell BK203.out 1).trans rfl, (blk_cell BK203.out 2).trans rfl, (blk_cell BK203.out 3).trans rfl, (blk_cell BK203.out 4).trans rfl, hx205_0, ((HB.out.cell (World.block_lt_of_cell? w _ hw206_0)).trans hw206_0), ((HB.out.cell (World.block_lt_of_cell? w _ hw206_1)).trans hw206_1), ((HB.out.cell (World.block_lt_of_cell? w _ hw206_2)).trans hw206_2), ((HB.out.cell (World.block_lt_of_cell? w _ hw206_3)).trans hw206_3), ((HB.out.cell (World.block_lt_of_cell? w _ hw206_4)).trans hw206_4)⟩ (fun hHeld => ?_); refine with_tabW impl_needs.tab6 impl_needs.bits6 (fun HT_ HW_ => ?_)
             generalize w27.drew = w28 at HO_3 BK203 HB HR205_0 hx205_0 hx206_0 hx206_1 hx206_2 hx206_3 hx206_4 hHeld ⊢
             refine pure_ (i := 0) (N := some 27) (v := ?_) (a' := ?_) #[true, false, false, false, false, false, false, false, false, false, false, false, false, false, false, false, false, false] rfl rfl (any_of HT_.out (by kernel_rfl)) (fun _ _ _ h => h) (Or.inl ⟨by rfl, ?_⟩) ?_ ?_; rotate_left
             ·intro w'
              go_simp
              with_reducible rfl
             rotate_left
             ·simp only [Act.put, List.setIfInBounds_toArray, List.set_cons_zero, List.set_cons_succ, i64_w, i32_w]
              rfl
             refine pure_ (i := 1) (N := some 28) (v := ?_) (a' := ?_) #[true, true, false, false, false, false, false, false, false, false, false, false, false, false, false, false, false, false] rfl rfl (any_of HT_.out (by kernel_rfl)) (fun _ _ _ h => h) (Or.inl ⟨by rfl, ?_⟩) ?_ ?_; rotate_left
             ·intro w'
              go_simp
              with_reducible rfl
             rotate_left
             ·simp only [Act.put, List.setIfInBounds_toArray, List.set_cons_zero, List.set_cons_succ, i64_w, i32_w]
              rfl
             refine pure_ (i := 3) (N := some 30) (v := ?_) (a' := ?_) #[true, true, false, true, false, false, false, false, false, false, false, false, false, false, false, false, false, false] rfl rfl (any_of HT_.out (by kernel_rfl)) (fun _ _ _ h => h) (Or.inl ⟨by rfl, ?_⟩) ?_ ?_; rotate_left
             ·intro w'
              go_simp
              with_reducible rfl
             rotate_left
             ·simp only [Act.put, List.setIfInBounds_toArray, List.set_cons_zero, List.set_cons_succ, i64_w, i32_w]
              rfl
             refine pure_ (i := 4) (N := some 31) (v := ?_) (a' := ?_) #[true, true, false, true, true, false, false, false, false, false, false, false, false, false, false, false, false, false] rfl rfl (any_of HT_.out (by kernel_rfl)) (fun _ _ _ h => h) (Or.inl ⟨by rfl, ?_⟩) ?_ ?_; rotate_left
             ·intro w'
              go_simp
              with_reducible rfl
             rotate_left
             ·simp only [Act.put, List.setIfInBounds_toArray, List.set_cons_zero, List.set_cons_succ, i64_w, i32_w]
              rfl
             refine pure_ (i := 8) (N := some 35) (v := ?_) (a' := ?_) #[true, true, false, true, true, false, false, false, true, false, false, false, false, false, false, false, false, false] rfl rfl (any_of HT_.out (by kernel_rfl)) (fun _ _ _ h => h) (Or.inl ⟨by rfl, ?_⟩) ?_ ?_; rotate_left
             ·intro w'
              go_simp
              with_reducible rfl
             rotate_left
             ·simp only [Act.put, List.setIfInBounds_toArray, List.set_cons_zero, List.set_cons_succ, i64_w, i32_w]
              rfl
             refine pure_ (i := 9) (N := some 36) (v := ?_) (a' := ?_) #[true, true, false, true, true, false, false, false, true, true, false, false, false, false, false, false, false, false] rfl rfl (any_of HT_.out (by kernel_rfl)) (fun _ _ _ h => h) (Or.inl ⟨by rfl, ?_⟩) ?_ ?_; rotate_left
             ·intro w'
              go_simp
              with_reducible rfl
             rotate_left
             ·simp only [Act.put, List.setIfInBounds_toArray, List.set_cons_zero, List.set_cons_succ, i64_w, i32_w]
              rfl
             refine take_ (i := 2) (N := some 29) (v := ?_) (a' := ?_) #[true, true, true, true, true, false, false, false, true, true, false, false, false, false, false, false, false, false] rfl rfl (take_ofW HT_.out HW_.out (by kernel_rfl)) (fun _ _ _ h => h) (Or.inl ⟨by rfl, ?_⟩) hHeld ?_ ?_; rotate_left
             ·rintro w' ⟨s0, s1, s2, s3, s4, s5, s6, s7, s8, s9, s10⟩
              go_simp
              with_reducible rfl
             rotate_left
             ·simp only [Act.put, List.setIfInBounds_toArray, List.set_cons_zero, List.set_cons_succ, i64_w, i32_w]
              rfl
             refine take_ (i := 5) (N := some 32) (v := ?_) (a' := ?_) #[true, true, true, true, true, true, false, false, true, true, false, false, false, false, false, false, false, false] rfl rfl (take_ofW HT_.out HW_.out (by kernel_rfl)) (fun _ _ _ h => h) (Or.inl ⟨by rfl, ?_⟩) hHeld ?_ ?_; rotate_left
             ·rintro w' ⟨s0, s1, s2, s3, s4, s5, s6, s7, s8, s9, s10⟩
              go_simp
              with_reducible rfl
             rotate_left
             ·simp only [Act.put, List.setIfInBounds_toArray, List.set_cons_zero, List.set_cons_succ, i64_w, i32_w]
              rfl
             refine pure_ (i := 6) (N := some 33) (v := ?_) (a' := ?_) #[true, true, true, true, true, true, true, false, true, true, false, false, false, false, false, false, false, false] rfl rfl (any_of HT_.out (by kernel_rfl)) (fun _ _ _ h => h) (Or.inl ⟨by rfl, ?_⟩) ?_ ?_; rotate_left
             ·intro w'
              go_simp
              with_reducible rfl
             rotate_left
             ·simp only [Act.put, List.setIfInBounds_toArray, List.set_cons_zero, List.set_cons_succ, i64_w, i32_w]
              rfl
             refine take_ (i := 7) (N := some 34) (v := ?_) (a' := ?_) #[true, true, true, true, true, true, true, true, true, true, false, false, false, false, false, false, false, false] rfl rfl (take_ofW HT_.out HW_.out (by kernel_rfl)) (fun _ _ _ h => h) (Or.inl ⟨by rfl, ?_⟩) hHeld ?_ ?_; rotate_left
             ·rintro w' ⟨s0, s1, s2, s3, s4, s5, s6, s7, s8, s9, s10⟩
              go_simp
              with_reducible rfl
             rotate_left
             ·simp only [Act.put, List.setIfInBounds_toArray, List.set_cons_zero, List.set_cons_succ, i64_w, i32_w]
              rfl
             refine take_ (i := 10) (N := some 37) (v := ?_) (a' := ?_) #[true, true, true, true, true, true, true, true, true, true, true, false, false, false, false, false, false, false] rfl rfl (take_ofW HT_.out HW_.out (by kernel_rfl)) (fun _ _ _ h => h) (Or.inl ⟨by rfl, ?_⟩) hHeld ?_ ?_; rotate_left
             ·rintro w' ⟨s0, s1, s2, s3, s4, s5, s6, s7, s8, s9, s10⟩
              go_simp
              with_reducible rfl
             rotate_left
             ·simp only [Act.put, List.setIfInBounds_toArray, List.set_cons_zero, List.set_cons_succ, i64_w, i32_w]
              rfl
             refine pure_ (i := 11) (N := some 38) (v := ?_) (a' := ?_) #[true, true, true, true, true, true, true, true, true, true, true, true, false, false, false, false, false, false] rfl rfl (any_of HT_.out (by kernel_rfl)) (fun _ _ _ h => h) (Or.inl ⟨by rfl, ?_⟩) ?_ ?_; rotate_left
             ·intro w'
              go_simp
              with_reducible rfl
             rotate_left
             ·simp only [Act.put, List.setIfInBounds_toArray, List.set_cons_zero, List.set_cons_succ, i64_w, i32_w]
              rfl
             refine pure_ (i := 12) (N := some 39) (v := ?_) (a' := ?_) #[true, true, true, true, true, true, true, true, true, true, true, true, true, false, false, false, false, false] rfl rfl (any_of HT_.out (by kernel_rfl)) (fun _ _ _ h => h) (Or.inl ⟨by rfl, ?_⟩) ?_ ?_; rotate_left
             ·intro w'
              go_simp
              with_reducible rfl
             rotate_left
             ·simp only [Act.put, List.setIfInBounds_toArray, List.set_cons_zero, List.set_cons_succ, i64_w, i32_w]
              rfl
             refine take_ (i := 13) (N := some 40) (v := ?_) (a' := ?_) #[true, true, true, true, true, true, true, true, true, true, true, true, true, true, false, false, false, false] rfl rfl (take_ofW HT_.out HW_.out (by kernel_rfl)) (fun _ _ _ h => h) (Or.inl ⟨by rfl, ?_⟩) hHeld ?_ ?_; rotate_left
             ·rintro w' ⟨s0, s1, s2, s3, s4, s5, s6, s7, s8, s9, s10⟩
              go_simp
              with_reducible rfl
             rotate_left
             ·simp only [Act.put, List.setIfInBounds_toArray, List.set_cons_zero, List.set_cons_succ, i64_w, i32_w]
              rfl
             refine one_ (i := 14) (N := some 41) #[true, true, true, true, true, true, true, true, true, true, true, true, true, true, true, false, false, false] rfl rfl (one_of HT_.out (by kernel_rfl)) (by decide) (fun K hK => ?_); refine Kd.R_lit_step (Kd.int .i64) _ 3 ?hg (N := 41) ?hd (xs := ([(rd_T98 l0 ((rd_T98 l0 x9_1).f3)).f1] : List Int)) (inner := [.int .i64 ((rd_T98 l0 ((rd_T98 l0 x9_1).f3)).f1)]) (ok := fun _ => True) (okp := fun _ => True) ?hr ?hp (fun _ hk => hk) trivial (Below.refl _ _) (Nat.le_refl _) (by simp) ?_; (case hd => rfl); (case hg => rfl); (case hr => first | (go_simp; done) | (go_simp; rfl)); (case hp => exact (Reps.one (show Kd.M (Kd.int .i64) _ _ _ ((rd_T98 l0 ((rd_T98 l0 x9_1).f3)).f1) [.int .i64 ((rd_T98 l0 ((rd_T98 l0 x9_1).f3)).f1)] from rfl) (Reps.none _ _))); intro v208 w30 ho31 hb hg_ hnew_; have HS5_ := (hb.cell (World.block_lt_of_cell? _ _ (hHeld.2.2.2.2.2.1))).trans (hHeld.2.2.2.2.2.1); clear hg_ hnew_
             (first | rw [← Ny207.out] at ho31 | (simp only [Int.reduceToNat] at ho31; rw [← Ny207.out] at ho31))
             have n0_ := Aside0.mk (Kd.S_elder' (by (with_reducible repeat (first | apply Kd.S_alloc | apply Kd.S_drewN | apply Kd.S_drew)); exact HO_3.out) (Kd.R_base ho31) hb); have n1_ := Aside0.mk True.intro; have n2_ := Aside0.mk (Kd.R_lower (Kd.R_newM (M := fun k_ => (w.heap.size ≤ k_)) ho31 (below_size (by repeat (first | (with_reducible first | exact HB.out | apply below_alloc | apply pw_below_drewN | apply below_drew1 | refine below_set ?_ GE203.out) | exact HB.out))) (fun k_ h_ => h_)) (below_size (by repeat (first | (with_reducible first | exact HB.out | apply below_alloc | apply pw_below_drewN | apply below_drew1 | refine below_set ?_ GE203.out) | exact HB.out)))); have n3_ := Aside0.mk (blk_below (g := gb203) (o := .cells #[.int .i64 ((rd_T98 l0 x9_1).f0), .int .i64 ((rd_T98 l0 x9_1).f1), .int .i64 ((rd_T98 l0 x9_1).f2), .int .i64 ((rd_T98 l0 x9_1).f3), .int .i64 ((rd_T98 l0 x9_1).f4)] 98 (0, 0)) (by (with_reducible repeat (first | refine blk_drewN ?_ _ | refine blk_drew ?_ | refine blk_alloc ?_ _)); exact BK203.out) hb); have n4_ := Aside0.mk (Kd.C_below (by repeat (first | (with_reducible exact HR205_0.out) | (with_reducible refine Kd.C_alloc ?_ _) | (with_reducible refine Kd.C_drewN ?_ _) | (with_reducible refine Kd.C_drew ?_) | exact HR205_0.out)) hb); have n5_ := Aside0.mk (below_step (by repeat (first | (with_reducible first | exact HB.out | apply below_alloc | apply pw_below_drewN | apply below_drew1 | refine below_set ?_ GE203.out) | exact HB.out)) hb); clear HO_3; clear BK203; clear HR205_0; clear HB; have HO_3 := n0_; have HO209 := n2_; have BK203 := n3_; have HR205_0 := n4_; have HB := n5_; clear n0_ n1_ n2_ n3_ n4_ n5_; clear hb ho31; obtain ⟨Ao32, co32, eo32⟩ := Kd.R_slice HO209.out
             (first | subst eo32 | (injection eo32 with f1_ f2_ f3_; have f4_ := f1_.symm; have f5_ := f3_.symm; clear f1_ f2_ f3_; subst f4_; subst f5_))
             refine hK.out _ _ ⟨(blk_cell BK203.out 0).trans rfl, (blk_cell BK203.out 1).trans rfl, (blk_cell BK203.out 2).trans rfl, (blk_cell BK203.out 3).trans rfl, (blk_cell BK203.out 4).trans rfl, HS5_, ((HB.out.cell (World.block_lt_of_cell? w _ hw206_0)).trans hw206_0), ((HB.out.cell (World.block_lt_of_cell? w _ hw206_1)).trans hw206_1), ((HB.out.cell (World.block_lt_of_cell? w _ hw206_2)).trans hw206_2), ((HB.out.cell (World.block_lt_of_cell? w _ hw206_3)).trans hw206_3), ((HB.out.cell (World.block_lt_of_cell? w _ hw206_4)).trans hw206_4)⟩ (fun hHeld => ?_); clear hK K; refine norm_ (a' := ?_) ?_ ?_; rotate_left
             ·show Act.put _ (some 41) _ = _
              simp only [Act.put, List.setIfInBounds_toArray, List.set_cons_zero, List.set_cons_succ, i64_w, i32_w]
              rfl
             refine one_ (i := 15) (N := some 42) #[true, true, true, true, true, true, true, true, true, true, true, true, true, true, true, true, false, false] rfl rfl (one_of HT_.out (by kernel_rfl)) (by decide) (fun K hK => ?_); refine goes_ Try.func109 (by kernel_rfl) rfl #[.slice A205_0 (rd_L3 x3_1 ((rd_T98 l0 x9_1).f1)).length c205_0, .slice Ao32 y207.length co32] (by rfl) rfl rfl (by (try simp only [List.map_toArray, List.map_cons, List.map_nil]); first | done | rfl | (simp only [List.length_drop, List.length_take]; rfl)) ?_
             with_reducible refine (impl_together.calls k1 _ _ (rd_L3 x3_1 ((rd_T98 l0 x9_1).f1)) _ _ y207 t210 _ ?side1 ?side2 ?side3 ?side4 A22.out).mono ?_
             (case side1 => repeat (first | exact (by repeat (first | (with_reducible exact HR205_0.out) | (with_reducible refine Kd.C_alloc ?_ _) | (with_reducible refine Kd.C_drewN ?_ _) | (with_reducible refine Kd.C_drew ?_) | exact HR205_0.out)) | (with_reducible refine Kd.C_alloc ?_ _) | (with_reducible refine Kd.C_drewN ?_ _) | (with_reducible refine Kd.C_drew ?_)))
             (case side2 => exact HC205_0.out)
             (case side3 => repeat (first | exact (Kd.R_reads' HO209.out).2.2 | (with_reducible refine Kd.C_alloc ?_ _) | (with_reducible refine Kd.C_drewN ?_ _) | (with_reducible refine Kd.C_drew ?_)))
             (case side4 => exact (Kd.R_reads' HO209.out).2.1)
             rintro e w33 ⟨v211, rfl, ho0, hb⟩; have HS5_ := (hb.cell (World.block_lt_of_cell? _ _ (hHeld.2.2.2.2.2.1))).trans (hHeld.2.2.2.2.2.1); refine ⟨_, rfl, ?_⟩; have n0_ := Aside0.mk (Kd.S_elder' (by (with_reducible repeat (first | apply Kd.S_alloc | apply Kd.S_drewN | apply Kd.S_drew)); exact HO_3.out) (Kd.R_base ho0) hb); have n1_ := Aside0.mk True.intro; have n2_ := Aside0.mk (Kd.R_elder' (by (with_reducible repeat (first | apply Kd.R_alloc | apply Kd.R_drewN | apply Kd.R_drew)); exact HO209.out) (Kd.R_base ho0) hb); have n3_ := Aside0.mk (Kd.R_lower (Kd.R_new' (Kd.R_newM (M := fun k_ => (w.heap.size ≤ k_)) ho0 (below_size (by repeat (first | (with_reducible first | exact HB.out | apply below_alloc | apply pw_below_drewN | apply below_drew1 | refine below_set ?_ GE203.out) | exact HB.out))) (fun k_ h_ => h_)) (Kd.R_lt (by (with_reducible repeat (first | apply Kd.R_alloc | apply Kd.R_drewN | apply Kd.R_drew)); exact HO209.out))) (below_size (by repeat (first | (with_reducible first | exact HB.out | apply below_alloc | apply pw_below_drewN | apply below_drew1 | refine below_set ?_ GE203.out) | exact HB.out)))); have n4_ := Aside0.mk (blk_below (g := gb203) (o := .cells #[.int .i64 ((rd_T98 l0 x9_1).f0), .int .i64 ((rd_T98 l0 x9_1).f1), .int .i64 ((rd_T98 l0 x9_1).f2), .int .i64 ((rd_T98 l0 x9_1).f3), .int .i64 ((rd_T98 l0 x9_1).f4)] 98 (0, 0)) (by (with_reducible repeat (first | refine blk_drewN ?_ _ | refine blk_drew ?_ | refine blk_alloc ?_ _)); exact BK203.out) hb); have n5_ := Aside0.mk (Kd.C_below (by repeat (first | (with_reducible exact HR205_0.out) | (with_reducible refine Kd.C_alloc ?_ _) | (with_reducible refine Kd.C_drewN ?_ _) | (with_reducible refine Kd.C_drew ?_) | exact HR205_0.out)) hb); have n6_ := Aside0.mk (below_step (by repeat (first | (with_reducible first | exact HB.out | apply below_alloc | apply pw_below_drewN | apply below_drew1 | refine below_set ?_ GE203.out) | exact HB.out)) hb); clear HO_3; clear HO209; clear BK203; clear HR205_0; clear HB; have HO_3 := n0_; have HO209 := n2_; have HO212 := n3_; have BK203 := n4_; have HR205_0 := n5_; have HB := n6_; clear n0_ n1_ n2_ n3_ n4_ n5_ n6_
             (try clear hb)
             (try clear hb2)
             (try clear hk)
             (try clear hi)
             (try clear ho0)
             have p23 : 0 ≤ (((rd_T98 l0 x9_1).f1) : Int) := of_decide_eq_true (by first | (with_reducible assumption) | assumption); have q23 : (((rd_T98 l0 x9_1).f1) : Int) < ((x3_1.length : Int) : Int) := of_decide_eq_true (by first | (with_reducible assumption) | assumption); obtain ⟨go23, co23, eo23, gb23, gl23, cl23, HG23⟩ := Kd.S_form HO_3.out (by omega)
             (first | cases eo23 | (injection eo23 with ea_ en_ ec_; (first | subst ea_ | (injection ea_ with ea_; subst ea_)); subst ec_; clear en_))
             have GB23 := Aside0.mk gb23; have GG23 := Aside0.mk HG23; clear gb23 gl23 HG23
             (first | simp only [add_plain] at hx205_0 | skip)
             obtain ⟨_, ce23, hcl23, hM23, hcc23, hfr23, _, _⟩ := Kd.S_elem HO_3.out [] (((rd_T98 l0 x9_1).f1) : Int) p23 q23; obtain ⟨ve23_0, rfl, ge23_0⟩ := hM23; have hx23_0 := hcc23 0 _ rfl; have hf23_0 := hfr23 0
             (try simp only [show ((Kd.slice 3 (Kd.int .i64))).sz = 1 from rfl, Nat.mul_one, Nat.add_zero] at hx23_0)
             (try simp only [show ((Kd.slice 3 (Kd.int .i64))).sz = 1 from rfl, Nat.mul_one, Nat.add_zero] at hf23_0)
             clear hcl23 hcc23 hfr23; (try clear hM23); replace p23 := eq_true p23; replace q23 := eq_true q23; have HX34 := Aside0.mk (show Kd.S (Kd.slice 3 (Kd.int .i64)) 37 _ w.heap.size (fun k_ => ((fun k_ => (w.heap.size ≤ k_) ∧ some k_ ≠ (.slice Ao32 y207.length co32 : Value).ownBlock ∧ k_ ≠ gb203)) k_ ∧ ¬ ((fun k_ => some k_ = (v211 : Value).ownBlock)) k_) (.slice (some ⟨go23, 0, none⟩) x3_1.length co29) x3_1 from Kd.S_mono (HO_3.out) (fun k_ hk => ⟨⟨hk.1.1.1, hk.1.2, hk.1.1.2⟩, fun e_ => hk.2 e_⟩)); obtain ⟨oki34, ce34, hcl34, hM34, hcc34, hfr34, hoki34, hH34⟩ := Kd.S_elem HX34.out [] (((rd_T98 l0 x9_1).f1) : Int) (of_decide_eq_true (by first | (with_reducible assumption) | assumption)) (by have h_ : (((rd_T98 l0 x9_1).f1) : Int) < ((x3_1.length : Int) : Int) := of_decide_eq_true (by first | (with_reducible assumption) | assumption); first | exact h_ | (have e_ := (Kd.S_reads' HO_3.out).1; omega) | simpa using h_); obtain ⟨ve34_0, rfl, ge34_0⟩ := hM34; obtain ⟨Av_, cv_, ev_⟩ := Kd.R_slice HO212.out; subst ev_; have HRO34 := Aside0.mk (Kd.R_mono (ok' := (fun k_ => ((fun k_ => (w.heap.size ≤ k_) ∧ some k_ ≠ (.slice Ao32 y207.length co32 : Value).ownBlock ∧ k_ ≠ gb203)) k_ ∧ k_ ≠ go23)) (Kd.R_types (Kd.R_apart' (HO212.out) (Kd.S_typed HO_3.out) (by decide)) BK203.out (by decide)) (fun k_ hk => ⟨⟨hk.1.1.1.1, ⟨hk.1.1.2, hk.2⟩⟩, fun e_ => (hk.1.2) (by rw [e_]; rfl)⟩)); have HP34 := (Kd.S_seg hH34 (of_decide_eq_true (by first | (with_reducible assumption) | assumption)) (by have h_ : (((rd_T98 l0 x9_1).f1) : Int) < ((x3_1.length : Int) : Int) := of_decide_eq_true (by first | (with_reducible assumption) | assumption); first | exact h_ | (have e_ := (Kd.S_reads' HO_3.out).1; omega) | simpa using h_) (seg := [(.slice Av_ t210.length cv_ : Value)]) (j := 0) (show 1 ≤ 1 from by decide) (x' := t210) (Kd.M_row (Kd.R_mono (Kd.R_tight rfl HRO34.out) (fun _ h_ => Or.inr (h_)))) (fun _ hk => hk) (fun k_ hk_ => HRO34.out.1 k_ hk_.symm)).1
             (try simp only [show ((Kd.slice 3 (Kd.int .i64))).sz = 1 from rfl, Nat.mul_one, Nat.add_zero] at HP34)
             rw [← Ny213.out] at HP34
             have HQ34 := Aside0.mk HP34; clear hcl34 hcc34 hfr34 HP34; (try clear hM34); refine hK.out _ _ ⟨(blk_cell BK203.out 0).trans rfl, (blk_cell BK203.out 1).trans rfl, (blk_cell BK203.out 2).trans rfl, (blk_cell BK203.out 3).trans rfl, (blk_cell BK203.out 4).trans rfl, HS5_, ((HB.out.cell (World.block_lt_of_cell? w _ hw206_0)).trans hw206_0), ((HB.out.cell (World.block_lt_of_cell? w _ hw206_1)).trans hw206_1), ((HB.out.cell (World.block_lt_of_cell? w _ hw206_2)).trans hw206_2), ((HB.out.cell (World.block_lt_of_cell? w _ hw206_3)).trans hw206_3), ((HB.out.cell (World.block_lt_of_cell? w _ hw206_4)).trans hw206_4)⟩ (fun hHeld => ?_); clear hK K; refine norm_ (a' := ?_) ?_ ?_; rotate_left
             ·show Act.put _ (some 42) _ = _
              simp only [Act.put, List.setIfInBounds_toArray, List.set_cons_zero, List.set_cons_succ, i64_w, i32_w]
              rfl
             refine pure_ (i := 16) (N := some 43) (v := ?_) (a' := ?_) #[true, true, true, true, true, true, true, true, true, true, true, true, true, true, true, true, true, false] rfl rfl (any_of HT_.out (by kernel_rfl)) (fun _ _ _ h => h) (Or.inl ⟨by rfl, ?_⟩) ?_ ?_; rotate_left
             ·intro w'
              go_simp
              with_reducible rfl
             rotate_left
             ·simp only [Act.put, List.setIfInBounds_toArray, List.set_cons_zero, List.set_cons_succ, i64_w, i32_w]
              rfl
             refine last_ (i := 17) (N := none) #[true, true, true, true, true, true, true, true, true, true, true, true, true, true, true, true, true, true] rfl rfl (one_of HT_.out (by kernel_rfl)) (by decide) (fun K hK => ?_); refine skip_ (w1 := ?_) (by rfl) rfl ?_ ?_; rotate_left
             ·go_simp
              rfl
             refine hK.out _ _ ?_; clear hK K; refine done_ (done_of HT_.out (by kernel_rfl)) ?_
             try go_wp2
             go_roundg k1
             case measure => have := HK1.out; omega
             case rel => exact ⟨(y213), (wrap64 (x9_1 + 1)), (by first | rfl | (simp; done) | (simp [*]; done)), H', ⟨by have := HK1.out; omega⟩, ⟨by (with_reducible repeat (first | apply Kd.S_alloc | apply Kd.S_drewN | apply Kd.S_drew)); exact Kd.S_mono HQ34.out (fun _ hk => hk.1)⟩, ⟨by repeat (first | (with_reducible first | exact HB.out | apply below_alloc | apply pw_below_drewN | apply below_drew1 | refine below_set ?_ GB23.out | refine below_set ?_ GE203.out) | exact HB.out)⟩⟩
            ·rw [if_neg c21] at H
             exact absurd H (by simp)
           ·rw [if_neg c20] at H
            exact absurd H (by simp)
         ·rw [if_neg c14] at H
          exact absurd H (by simp)
        ·rw [if_neg c13] at H
         exact absurd H (by simp)
      ·rw [if_neg c7] at H
       exact absurd H (by simp)
     ·rw [if_neg c6] at H
      exact absurd H (by simp)
    ·rw [if_neg c5] at H
     have c5b0 : decide (x9_1 < (l0.length : Int)) = false := decide_eq_false c5; clear c5; obtain rfl := Option.some.inj H
     go_wp2
     go_ret
     exact ⟨_, by first | rfl | (simp [errW_none, errW_some] <;> rfl) | (simp [*, errW_none, errW_some] <;> rfl), by (with_reducible repeat (first | apply Kd.S_alloc | apply Kd.S_drewN | apply Kd.S_drew)); exact Kd.S_mono HO_3.out (fun _ _ => trivial), by repeat first | exact HB.out | apply below_alloc | apply pw_below_drewN | apply below_drew1⟩
 ·rw [if_neg c2] at H
  exact absurd H (by simp)
end Go.Proofs.Ytbaojaadmooogaa.PFnExactRunPieces
