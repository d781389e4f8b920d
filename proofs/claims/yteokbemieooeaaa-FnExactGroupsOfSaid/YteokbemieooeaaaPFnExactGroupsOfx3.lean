-- Written for this claim by the session's own program (drive.py), over the kit's print, with contracts typed by hand.
import Derived.Test.YteokbemieooeaaaPFnExactGroupsOfx0
import Derived.Test.YteokbemieooeaaaPFnExactGroupsOfx2
namespace Go.Proofs.Yteokbemieooeaaa.PFnExactGroupsOf
open Go.RowKit Go.Proofs.YteokbemieooeaaaW.PrintWords Go.Proofs.YteokbemieooeaaaW.PrintLast Go.Proofs.YteokbemieooeaaaW.PrintMore
attribute [local go_sem] max2_int min2_int max_two min_two max_three min_three max_four min_four   -- for this text's walks alone
set_option linter.unusedVariables false
set_option linter.unusedSimpArgs false

/-! ### spec_l9Reach: function 69 -/
mutual
def spec_l9Reach.l0 : Nat → List (List Int) → List Int → List Int → Option (List Int)
  | 0, _, _, _ => none
  | k + 1, x0, x5, x6 => if (x6.length : Int) > 0 then (if 0 < (x6.length : Int) then (if 1 ≤ (x6.length : Int) then (if 0 ≤ (rd x6 0) then (if (rd x6 0) < (x0.length : Int) then (spec_l9Reach.l1 k x0 x5 (x6.drop (1 : Int).toNat) (rd_L1 x0 (rd x6 0)) ((rd_L1 x0 (rd x6 0)).length : Int) 0) else (none)) else (none)) else (none)) else (none)) else (some x5)
def spec_l9Reach.l1 : Nat → List (List Int) → List Int → List Int → List Int → Int → Int → Option (List Int)
  | 0, _, _, _, _, _, _ => none
  | k + 1, x0, x5, x6, x25, x26, x27 => if x27 < x26 then (if 0 ≤ x27 then (if x27 < (x25.length : Int) then ((spec_l1Has.f k x5 (rd x25 x27)).bind fun t186 => (if t186 = true then (spec_l9Reach.l1 k x0 x5 x6 x25 x26 (wrap64 (x27 + 1))) else ((spec_l1Put.f k x5 (rd x25 x27)).bind fun t187 => (if x6.length < 17592186044416 then (spec_l9Reach.l1 k x0 t187 (x6 ++ [rd x25 x27]) x25 x26 (wrap64 (x27 + 1))) else (none))))) else (none)) else (none)) else (spec_l9Reach.l0 k x0 x5 x6)
end
def spec_l9Reach.f (k : Nat) (l0 : List (List Int)) (a1 : Int) : Option (List Int) := spec_l9Reach.l0 k l0 (([a1] : List Int)) (([a1] : List Int))
theorem spec_l9Reach.mono_l : ∀ k, (∀ y0 y1 y2, LeO (spec_l9Reach.l0 k y0 y1 y2) (spec_l9Reach.l0 (k + 1) y0 y1 y2)) ∧ (∀ y0 y1 y2 y3 y4 y5, LeO (spec_l9Reach.l1 k y0 y1 y2 y3 y4 y5) (spec_l9Reach.l1 (k + 1) y0 y1 y2 y3 y4 y5))
  | 0 => ⟨fun _ _ _ r h => by simp [spec_l9Reach.l0] at h, fun _ _ _ _ _ _ r h => by simp [spec_l9Reach.l1] at h⟩
  | k + 1 => by
    obtain ⟨ih0, ih1⟩ := spec_l9Reach.mono_l k
    refine ⟨?_, ?_⟩
    · intro y0 y1 y2
      unfold spec_l9Reach.l0
      repeat' first
      | (with_reducible exact ih0 _ _ _)
      | (with_reducible exact ih1 _ _ _ _ _ _)
      | (with_reducible exact spec_l1Has.mono _ _ _)
      | (with_reducible exact spec_l1Put.mono _ _ _)
      | (with_reducible exact LeO.refl _)
      | (with_reducible exact LeO.none _)
      | (with_reducible refine LeO.ite ?_ ?_)
      | (with_reducible refine LeO.bind ?_ (fun _ => ?_))
      | exact ih0 _ _ _
      | exact ih1 _ _ _ _ _ _
      | exact spec_l1Has.mono _ _ _
      | exact spec_l1Put.mono _ _ _
      | exact LeO.none _
      | refine LeO.ite ?_ ?_
      | refine LeO.bind ?_ (fun _ => ?_)
    · intro y0 y1 y2 y3 y4 y5
      unfold spec_l9Reach.l1
      repeat' first
      | (with_reducible exact ih0 _ _ _)
      | (with_reducible exact ih1 _ _ _ _ _ _)
      | (with_reducible exact spec_l1Has.mono _ _ _)
      | (with_reducible exact spec_l1Put.mono _ _ _)
      | (with_reducible exact LeO.refl _)
      | (with_reducible exact LeO.none _)
      | (with_reducible refine LeO.ite ?_ ?_)
      | (with_reducible refine LeO.bind ?_ (fun _ => ?_))
      | exact ih0 _ _ _
      | exact ih1 _ _ _ _ _ _
      | exact spec_l1Has.mono _ _ _
      | exact spec_l1Put.mono _ _ _
      | exact LeO.none _
      | refine LeO.ite ?_ ?_
      | refine LeO.bind ?_ (fun _ => ?_)
theorem spec_l9Reach.mono : ∀ a0 a1 k, LeO (spec_l9Reach.f k a0 a1) (spec_l9Reach.f (k + 1) a0 a1) := by
  intro a0 a1 k
  obtain ⟨ih0, ih1⟩ := spec_l9Reach.mono_l k
  unfold spec_l9Reach.f
  repeat' first
      | (with_reducible exact ih0 _ _ _)
      | (with_reducible exact ih1 _ _ _ _ _ _)
      | (with_reducible exact spec_l1Has.mono _ _ _)
      | (with_reducible exact spec_l1Put.mono _ _ _)
      | (with_reducible exact LeO.refl _)
      | (with_reducible exact LeO.none _)
      | (with_reducible refine LeO.ite ?_ ?_)
      | (with_reducible refine LeO.bind ?_ (fun _ => ?_))
      | exact ih0 _ _ _
      | exact ih1 _ _ _ _ _ _
      | exact spec_l1Has.mono _ _ _
      | exact spec_l1Put.mono _ _ _
      | exact LeO.none _
      | refine LeO.ite ?_ ?_
      | refine LeO.bind ?_ (fun _ => ?_)
set_option maxHeartbeats 8000000 in
set_option maxRecDepth 100000 in
theorem spec_l9Reach.calls (k : Nat) (A0 : Option Addr) (c0 : Nat) (l0 : List (List Int)) (a1 : Int) (r : List Int) (w : World) (hr0 : Kd.C (Kd.slice 3 (Kd.int .i64)) w A0 l0.length l0) (hc0 : l0.length ≤ c0) (h : spec_l9Reach.f k l0 a1 = some r) :
    Calls Try.prog 69 #[.slice A0 l0.length c0, .int .i64 a1] w fun e w' => ∃ v0_ : Value, e = .returned (v0_) ∧ Kd.V (Kd.int .i64) 3 w' w.heap.size (fun k_ => (w.heap.size ≤ k_)) v0_ r ∧ Below w.heap.size w w' := by
  have HR0 := Aside0.mk hr0
  have HC0 := Aside0.mk hc0
  clear hr0 hc0
  have HB := Aside0.mk (Below.refl w.heap.size w)
  have H : (spec_l9Reach.l0 k l0 (([a1] : List Int)) (([a1] : List Int))) = some r := h
  clear h
  obtain ⟨y174, hy174⟩ : ∃ y_ : List Int, y_ = (([a1] : List Int)) := ⟨_, rfl⟩
  replace H : (spec_l9Reach.l0 k l0 y174 (([a1] : List Int))) = some r := by first | (rw [hy174]; with_reducible exact H) | (have H2_ := (Option.bind_some _ _).symm.trans H; rw [hy174]; with_reducible exact H2_) | (have H2_ := (Option.bind_some _ _).symm.trans H; with_reducible exact H2_) | with_reducible exact H | (rw [hy174]; exact H) | exact H
  have Ny174 := Aside0.mk hy174
  clear hy174
  obtain ⟨y177, hy177⟩ : ∃ y_ : List Int, y_ = (([a1] : List Int)) := ⟨_, rfl⟩
  replace H : (spec_l9Reach.l0 k l0 y174 y177) = some r := by first | (rw [hy177]; with_reducible exact H) | (have H2_ := (Option.bind_some _ _).symm.trans H; rw [hy177]; with_reducible exact H2_) | (have H2_ := (Option.bind_some _ _).symm.trans H; with_reducible exact H2_) | with_reducible exact H | (rw [hy177]; exact H) | exact H
  have Ny177 := Aside0.mk hy177
  clear hy177
  have H' := Aside0.mk H
  clear H
  go_enter Try.func69, Try.ntmps69
  go_wp2_with (first | ((with_reducible refine gate_dst (N := 11) rfl ?_); refine Kd.R_lit (Kd.int .i64) _ 3 ?hg (N := 11) ?hd (xs := ([a1] : List Int)) (inner := [.int .i64 a1]) (ok := fun _ => True) (okp := fun _ => True) ?hr ?hp (fun _ hk => hk) trivial (Below.refl _ _) (Nat.le_refl _) (by simp) ?_; (case hd => rfl); (case hg => rfl); (case hr => first | (go_simp; done) | (go_simp; rfl)); (case hp => exact (Reps.one (show Kd.M (Kd.int .i64) _ _ _ a1 [.int .i64 a1] from rfl) (Reps.none _ _))); intro v175 w3 ho4 hb hg_ hnew_; clear hg_ hnew_; (first | rw [← Ny174.out] at ho4 | (simp only [Int.reduceToNat] at ho4; rw [← Ny174.out] at ho4)); have n0_ := Aside0.mk (Kd.R_lower (Kd.R_newM (M := fun k_ => (w.heap.size ≤ k_)) ho4 (below_size (by repeat (first | (with_reducible first | exact HB.out | apply below_alloc | apply pw_below_drewN | apply below_drew1) | exact HB.out))) (fun k_ h_ => h_)) (below_size (by repeat (first | (with_reducible first | exact HB.out | apply below_alloc | apply pw_below_drewN | apply below_drew1) | exact HB.out)))); have n1_ := Aside0.mk (below_step (by repeat (first | (with_reducible first | exact HB.out | apply below_alloc | apply pw_below_drewN | apply below_drew1) | exact HB.out)) hb); clear HB; have HO176 := n0_; have HB := n1_; clear n0_ n1_; clear hb ho4) | ((with_reducible refine gate_dst (N := 13) rfl ?_); refine Kd.R_lit (Kd.int .i64) _ 3 ?hg (N := 13) ?hd (xs := ([a1] : List Int)) (inner := [.int .i64 a1]) (ok := fun _ => True) (okp := fun _ => True) ?hr ?hp (fun _ hk => hk) trivial (Below.refl _ _) (Nat.le_refl _) (by simp) ?_; (case hd => rfl); (case hg => rfl); (case hr => first | (go_simp; done) | (go_simp; rfl)); (case hp => exact (Reps.one (show Kd.M (Kd.int .i64) _ _ _ a1 [.int .i64 a1] from rfl) (Reps.none _ _))); intro v178 w5 ho6 hb hg_ hnew_; clear hg_ hnew_; (first | rw [← Ny177.out] at ho6 | (simp only [Int.reduceToNat] at ho6; rw [← Ny177.out] at ho6)); have n0_ := Aside0.mk (Kd.R_elder' (by (with_reducible repeat (first | apply Kd.R_alloc | apply Kd.R_drewN | apply Kd.R_drew)); exact HO176.out) (Kd.R_base ho6) hb); have n1_ := Aside0.mk (Kd.R_lower (Kd.R_new' (Kd.R_newM (M := fun k_ => (w.heap.size ≤ k_)) ho6 (below_size (by repeat (first | (with_reducible first | exact HB.out | apply below_alloc | apply pw_below_drewN | apply below_drew1) | exact HB.out))) (fun k_ h_ => h_)) (Kd.R_lt (by (with_reducible repeat (first | apply Kd.R_alloc | apply Kd.R_drewN | apply Kd.R_drew)); exact HO176.out))) (below_size (by repeat (first | (with_reducible first | exact HB.out | apply below_alloc | apply pw_below_drewN | apply below_drew1) | exact HB.out)))); have n2_ := Aside0.mk (below_step (by repeat (first | (with_reducible first | exact HB.out | apply below_alloc | apply pw_below_drewN | apply below_drew1) | exact HB.out)) hb); clear HO176; clear HB; have HO176 := n0_; have HO179 := n1_; have HB := n2_; clear n0_ n1_ n2_; clear hb ho6))
  go_loopg [5, 6] k (fun kq v5 v6 w' => ∃ (x5_1 : List Int) (x6_1 : List Int), Aside0 (spec_l9Reach.l0 kq l0 x5_1 x6_1 = some r) ∧ Aside0 (kq ≤ k) ∧ Aside0 (Kd.V (Kd.int .i64) 3 w' w.heap.size (fun k_ => (w.heap.size ≤ k_) ∧ some k_ ≠ (v6 : Value).ownBlock) v5 x5_1) ∧ Aside0 (Kd.Q (Kd.int .i64) 3 w' w.heap.size (fun k_ => (w.heap.size ≤ k_)) v6 x6_1) ∧ Aside0 (Below w.heap.size w w'))
  case atStart => exact ⟨(y174), (y177), H', ⟨Nat.le_refl _⟩, ⟨Kd.R_V (by (with_reducible repeat (first | apply Kd.R_alloc | apply Kd.R_drewN | apply Kd.R_drew)); exact Kd.R_mono HO176.out (fun _ hk => ⟨hk.1.1, hk.2⟩))⟩, ⟨Kd.Q_of_R (by (with_reducible repeat (first | apply Kd.R_alloc | apply Kd.R_drewN | apply Kd.R_drew)); exact Kd.R_mono HO179.out (fun _ hk => hk.1.1))⟩, ⟨by repeat (first | (with_reducible first | exact HB.out | apply below_alloc | apply pw_below_drewN | apply below_drew1) | exact HB.out)⟩⟩
  case round =>
    clear H'
    try clear p2
    try clear c6
    obtain ⟨x5_1, x6_1, HA, HK1, HO_5, HO_6, HB⟩ := hrel
    cases gk with
    | zero => exact absurd HA.out (by simp [spec_l9Reach.l0])
    | succ k1 =>
      have H := HA.out
      clear HA
      simp only [spec_l9Reach.l0] at H
      by_cases c7 : (x6_1.length : Int) > 0
      · rw [if_pos c7] at H
        have c7b0 : decide (0 < (x6_1.length : Int)) = true := decide_eq_true c7
        have c7b1 : decide (0 < x6_1.length) = true := decide_eq_true (by omega)
        clear c7
        by_cases c8 : 0 < (x6_1.length : Int)
        · rw [if_pos c8] at H
          have c8b0 : decide (0 < (x6_1.length : Int)) = true := decide_eq_true c8
          have c8b1 : decide (0 < x6_1.length) = true := decide_eq_true (by omega)
          clear c8
          by_cases c9 : 1 ≤ (x6_1.length : Int)
          · rw [if_pos c9] at H
            have c9b0 := eq_true c9
            have c9b1 : decide (1 ≤ (x6_1.length : Int)) = true := decide_eq_true c9
            clear c9
            obtain ⟨y181, hy181⟩ : ∃ y_ : List Int, y_ = (x6_1.drop (1 : Int).toNat) := ⟨_, rfl⟩
            replace H : (if 0 ≤ (rd x6_1 0) then (if (rd x6_1 0) < (l0.length : Int) then (spec_l9Reach.l1 k1 l0 x5_1 y181 (rd_L1 l0 (rd x6_1 0)) ((rd_L1 l0 (rd x6_1 0)).length : Int) 0) else (none)) else (none)) = some r := by first | (rw [hy181]; with_reducible exact H) | (have H2_ := (Option.bind_some _ _).symm.trans H; rw [hy181]; with_reducible exact H2_) | (have H2_ := (Option.bind_some _ _).symm.trans H; with_reducible exact H2_) | with_reducible exact H | (rw [hy181]; exact H) | exact H
            have Ny181 := Aside0.mk hy181
            clear hy181
            by_cases c10 : 0 ≤ (rd x6_1 0)
            · rw [if_pos c10] at H
              have c10b0 : decide (0 ≤ (rd x6_1 0)) = true := decide_eq_true c10
              clear c10
              by_cases c11 : (rd x6_1 0) < (l0.length : Int)
              · rw [if_pos c11] at H
                have c11b0 : decide ((rd x6_1 0) < (l0.length : Int)) = true := decide_eq_true c11
                clear c11
                have H' := Aside0.mk H
                clear H
                obtain ⟨Ao12, co12, eo12, _⟩ := Kd.Q_slice HO_6.out
                subst eo12
                have p180 : 0 ≤ (0 : Int) := (by omega)
                have q180 : 0 < (x6_1.length : Int) := of_decide_eq_true (by first | (with_reducible assumption) | assumption)
                obtain ⟨ad180, e180, hx180_0⟩ := Kd.at_int (Kd.Q_reads' HO_6.out).2.2 0 p180 q180
                cases e180
                have qi180 : (0 < x6_1.length) = True := eq_true (by omega)
                (try rw [show ((0 : Int)).toNat = 0 from rfl] at hx180_0)
                (try rw [Addr.add_zero'] at hx180_0)
                replace p180 := eq_true p180
                replace q180 := eq_true q180
                have q13 : (1 : Int) ≤ ((x6_1.length : Int) : Int) := of_decide_eq_true (by first | (with_reducible assumption) | assumption)
                obtain ⟨i013, hi013, _, hsz13, _⟩ := info_parts info3
                have hcut13 := cut_from (P := Try.prog) 24 3 .i64 Try.underlying24 hi013 1 hsz13 (some ad180) x6_1.length co12 1 (by omega) q13
                have hr13 := Kd.Q_drop (k := (1 : Int).toNat) HO_6.out (by omega)
                obtain ⟨A13, hA13⟩ : ∃ A1, A1 = (if co12 = (1 : Int).toNat then (some ad180) else ((some ad180) : Option Addr).map (·.add ((1 : Int).toNat * 1))) := ⟨_, rfl⟩
                obtain ⟨c13, hc13⟩ : ∃ c1, c1 = co12 - (1 : Int).toNat := ⟨_, rfl⟩
                have hy13 : y181.length = x6_1.length - (1 : Int).toNat := (by rw [Ny181.out, List.length_drop])
                rw [← Ny181.out] at hr13
                rw [← hy13, ← hA13, ← hc13] at hcut13
                replace hr13 : Kd.Q (Kd.int .i64) 3 wr w.heap.size (fun k_ => (w.heap.size ≤ k_)) (.slice A13 y181.length c13) y181 := (by rw [hA13, hc13, hy13]; exact hr13)
                have HE13 : Aside0 ((Value.slice A13 y181.length c13).ownBlock = (.slice (some ad180) x6_1.length co12 : Value).ownBlock) := ⟨by rw [hA13]; split <;> (cases ((some ad180) : Option Addr) <;> rfl)⟩
                clear hy13 hi013 hsz13 HO_6 hA13 hc13
                have HO183 := Aside0.mk hr13
                clear hr13
                replace q13 := eq_true q13
                have n_ := Aside0.mk (Kd.V_mono (ok' := fun k_ => (((w.heap.size ≤ k_)) ∧ some k_ ≠ (.slice A13 y181.length c13 : Value).ownBlock)) HO_5.out (fun k_ hk => ⟨hk.1, (by rw [HE13.out]; exact hk.2)⟩))
                clear HO_5
                have HO_5 := n_
                clear n_
                have p184 : 0 ≤ ((rd x6_1 0) : Int) := of_decide_eq_true (by first | (with_reducible assumption) | assumption)
                have q184 : (rd x6_1 0) < (l0.length : Int) := of_decide_eq_true (by first | (with_reducible assumption) | assumption)
                obtain ⟨ad184, A184_0, c184_0, e184, hx184_0, hl184_0, hi184_0⟩ := at_L1 HR0.out (rd x6_1 0) p184 q184
                cases e184
                replace hx184_0 := (HB.out.cell (World.block_lt_of_cell? w _ hx184_0)).trans hx184_0
                have HR184_0 := Aside0.mk hi184_0
                have HC184_0 := Aside0.mk hl184_0
                clear hi184_0 hl184_0
                replace p184 := eq_true p184
                replace q184 := eq_true q184
                go_wp2
                go_loopg [5, 6, 27] k1 (fun kq v5 v6 v27 w' => ∃ (x5_2 : List Int) (x6_2 : List Int) (x27_2 : Int), v27 = .int .i64 x27_2 ∧ Aside0 (spec_l9Reach.l1 kq l0 x5_2 x6_2 (rd_L1 l0 (rd x6_1 0)) ((rd_L1 l0 (rd x6_1 0)).length : Int) x27_2 = some r) ∧ Aside0 (kq ≤ k1) ∧ Aside0 (Kd.V (Kd.int .i64) 3 w' w.heap.size (fun k_ => (w.heap.size ≤ k_) ∧ some k_ ≠ (v6 : Value).ownBlock) v5 x5_2) ∧ Aside0 (Kd.Q (Kd.int .i64) 3 w' w.heap.size (fun k_ => (w.heap.size ≤ k_)) v6 x6_2) ∧ Aside0 (Below w.heap.size w w'))
                case atStart => exact ⟨(x5_1), (y181), (0), (by first | rfl | (simp; done) | (simp [*]; done)), H', ⟨Nat.le_refl _⟩, ⟨by (with_reducible repeat (first | apply Kd.V_alloc | apply Kd.V_drewN | apply Kd.V_drew)); exact HO_5.out⟩, ⟨by (with_reducible repeat (first | apply Kd.Q_alloc | apply Kd.Q_drewN | apply Kd.Q_drew)); exact HO183.out⟩, ⟨by repeat (first | (with_reducible first | exact HB.out | apply below_alloc | apply pw_below_drewN | apply below_drew1) | exact HB.out)⟩⟩
                case round =>
                  clear H'
                  try clear c1
                  try clear p1
                  try clear q1
                  try clear hx1
                  try clear qi1
                  try clear p2
                  try clear c6
                  try clear c7
                  try clear c7b0
                  try clear c7b1
                  try clear c8
                  try clear c8b0
                  try clear c8b1
                  try clear c9
                  try clear c9b0
                  try clear c9b1
                  try clear c10
                  try clear c10b0
                  try clear c11
                  try clear c11b0
                  try clear c13
                  try clear q13
                  try clear hx180_0
                  try clear hx184_0
                  try clear p180
                  try clear p184
                  try clear p2
                  try clear q13
                  try clear q180
                  try clear q184
                  obtain ⟨x5_2, x6_2, x27_2, rfl, HA, HK2, HO_5, HO_6, HB⟩ := hrel
                  cases gk with
                  | zero => exact absurd HA.out (by simp [spec_l9Reach.l1])
                  | succ k2 =>
                    have H := HA.out
                    clear HA
                    simp only [spec_l9Reach.l1] at H
                    by_cases c14 : x27_2 < ((rd_L1 l0 (rd x6_1 0)).length : Int)
                    · rw [if_pos c14] at H
                      have c14b0 : decide (x27_2 < ((rd_L1 l0 (rd x6_1 0)).length : Int)) = true := decide_eq_true c14
                      clear c14
                      by_cases c15 : 0 ≤ x27_2
                      · rw [if_pos c15] at H
                        have c15b0 : decide (0 ≤ x27_2) = true := decide_eq_true c15
                        clear c15
                        by_cases c16 : x27_2 < ((rd_L1 l0 (rd x6_1 0)).length : Int)
                        · rw [if_pos c16] at H
                          have c16b0 : decide (x27_2 < ((rd_L1 l0 (rd x6_1 0)).length : Int)) = true := decide_eq_true c16
                          clear c16
                          replace H := Option.bind_eq_some_iff.mp H
                          obtain ⟨t186, A170, H⟩ := H
                          replace H : (if t186 = true then (spec_l9Reach.l1 k2 l0 x5_2 x6_2 (rd_L1 l0 (rd x6_1 0)) ((rd_L1 l0 (rd x6_1 0)).length : Int) (wrap64 (x27_2 + 1))) else ((spec_l1Put.f k2 x5_2 (rd (rd_L1 l0 (rd x6_1 0)) x27_2)).bind fun t187 => (if x6_2.length < 17592186044416 then (spec_l9Reach.l1 k2 l0 t187 (x6_2 ++ [rd (rd_L1 l0 (rd x6_1 0)) x27_2]) (rd_L1 l0 (rd x6_1 0)) ((rd_L1 l0 (rd x6_1 0)).length : Int) (wrap64 (x27_2 + 1))) else (none)))) = some r := H
                          have A17 := Aside0.mk A170
                          clear A170
                          by_cases c18 : t186 = true
                          · subst c18
                            have H1 : (spec_l9Reach.l1 k2 l0 x5_2 x6_2 (rd_L1 l0 (rd x6_1 0)) ((rd_L1 l0 (rd x6_1 0)).length : Int) (wrap64 (x27_2 + 1))) = some r := by rw [if_pos rfl] at H; exact H
                            clear H
                            have H := H1
                            clear H1
                            have H' := Aside0.mk H
                            clear H
                            have p185 : 0 ≤ (x27_2 : Int) := of_decide_eq_true (by first | (with_reducible assumption) | assumption)
                            have q185 : x27_2 < ((rd_L1 l0 (rd x6_1 0)).length : Int) := of_decide_eq_true (by first | (with_reducible assumption) | assumption)
                            obtain ⟨ad185, e185, hx185_0⟩ := Kd.at_int HR184_0.out x27_2 p185 q185
                            cases e185
                            replace hx185_0 := (HB.out.cell (World.block_lt_of_cell? w _ hx185_0)).trans hx185_0
                            replace p185 := eq_true p185
                            replace q185 := eq_true q185
                            obtain ⟨Ao19, co19, eo19⟩ := Kd.V_slice HO_5.out
                            subst eo19
                            go_wp2_with (first | ((with_reducible refine gate_callee (f := 44) rfl ?_); refine goesL_ (some 33) rfl rfl Try.func44 (by kernel_rfl) rfl #[.slice Ao19 x5_2.length co19, .int .i64 (rd (rd_L1 l0 (rd x6_1 0)) x27_2)] rfl (by (try simp only [List.map_toArray, List.map_cons, List.map_nil]); first | done | rfl | (simp only [List.length_drop, List.length_take]; rfl)) ?_; (with_reducible refine (spec_l1Has.calls k2 _ _ x5_2 (rd (rd_L1 l0 (rd x6_1 0)) x27_2) true _ ?side1 ?side2 A17.out).mono ?_); (case side1 => repeat (first | exact (Kd.V_reads' HO_5.out).2.2 | (with_reducible refine Kd.C_alloc ?_ _) | (with_reducible refine Kd.C_drewN ?_ _) | (with_reducible refine Kd.C_drew ?_))); (case side2 => exact (Kd.V_reads' HO_5.out).2.1); rintro e w' ⟨rfl, ⟨nd, rfl⟩⟩; refine ⟨_, rfl, ?_⟩))
                            go_roundg k2
                            case measure => have := HK1.out; have := HK2.out; omega
                            case rel => exact ⟨(x5_2), (x6_2), (wrap64 (x27_2 + 1)), (by first | rfl | (simp; done) | (simp [*]; done)), H', ⟨by have := HK1.out; have := HK2.out; omega⟩, ⟨by (with_reducible repeat (first | apply Kd.V_alloc | apply Kd.V_drewN | apply Kd.V_drew)); exact HO_5.out⟩, ⟨by (with_reducible repeat (first | apply Kd.Q_alloc | apply Kd.Q_drewN | apply Kd.Q_drew)); exact HO_6.out⟩, ⟨by repeat (first | (with_reducible first | exact HB.out | apply below_alloc | apply pw_below_drewN | apply below_drew1) | exact HB.out)⟩⟩
                          · replace c18 := Bool.eq_false_iff.mpr c18
                            subst c18
                            have H1 : ((spec_l1Put.f k2 x5_2 (rd (rd_L1 l0 (rd x6_1 0)) x27_2)).bind fun t187 => (if x6_2.length < 17592186044416 then (spec_l9Reach.l1 k2 l0 t187 (x6_2 ++ [rd (rd_L1 l0 (rd x6_1 0)) x27_2]) (rd_L1 l0 (rd x6_1 0)) ((rd_L1 l0 (rd x6_1 0)).length : Int) (wrap64 (x27_2 + 1))) else (none))) = some r := by rw [if_neg (show ¬ (false = true) by decide)] at H; exact H
                            clear H
                            have H := H1
                            clear H1
                            replace H := Option.bind_eq_some_iff.mp H
                            obtain ⟨t187, A200, H⟩ := H
                            replace H : (if x6_2.length < 17592186044416 then (spec_l9Reach.l1 k2 l0 t187 (x6_2 ++ [rd (rd_L1 l0 (rd x6_1 0)) x27_2]) (rd_L1 l0 (rd x6_1 0)) ((rd_L1 l0 (rd x6_1 0)).length : Int) (wrap64 (x27_2 + 1))) else (none)) = some r := H
                            have A20 := Aside0.mk A200
                            clear A200
                            by_cases c21 : x6_2.length < 17592186044416
                            · rw [if_pos c21] at H
                              have LMc21 := Aside0.mk c21
                              clear c21
                              obtain ⟨y190, hy190⟩ : ∃ y_ : List Int, y_ = (x6_2 ++ [rd (rd_L1 l0 (rd x6_1 0)) x27_2]) := ⟨_, rfl⟩
                              replace H : (spec_l9Reach.l1 k2 l0 t187 y190 (rd_L1 l0 (rd x6_1 0)) ((rd_L1 l0 (rd x6_1 0)).length : Int) (wrap64 (x27_2 + 1))) = some r := by first | (rw [hy190]; with_reducible exact H) | (have H2_ := (Option.bind_some _ _).symm.trans H; rw [hy190]; with_reducible exact H2_) | (have H2_ := (Option.bind_some _ _).symm.trans H; with_reducible exact H2_) | with_reducible exact H | (rw [hy190]; exact H) | exact H
                              have Ny190 := Aside0.mk hy190
                              clear hy190
                              have H' := Aside0.mk H
                              clear H
                              have p185 : 0 ≤ (x27_2 : Int) := of_decide_eq_true (by first | (with_reducible assumption) | assumption)
                              have q185 : x27_2 < ((rd_L1 l0 (rd x6_1 0)).length : Int) := of_decide_eq_true (by first | (with_reducible assumption) | assumption)
                              obtain ⟨ad185, e185, hx185_0⟩ := Kd.at_int HR184_0.out x27_2 p185 q185
                              cases e185
                              replace hx185_0 := (HB.out.cell (World.block_lt_of_cell? w _ hx185_0)).trans hx185_0
                              replace p185 := eq_true p185
                              replace q185 := eq_true q185
                              obtain ⟨Ao22, co22, eo22⟩ := Kd.V_slice HO_5.out
                              subst eo22
                              go_wp2_with (first | ((with_reducible refine gate_callee (f := 44) rfl ?_); refine goesL_ (some 33) rfl rfl Try.func44 (by kernel_rfl) rfl #[.slice Ao22 x5_2.length co22, .int .i64 (rd (rd_L1 l0 (rd x6_1 0)) x27_2)] rfl (by (try simp only [List.map_toArray, List.map_cons, List.map_nil]); first | done | rfl | (simp only [List.length_drop, List.length_take]; rfl)) ?_; (with_reducible refine (spec_l1Has.calls k2 _ _ x5_2 (rd (rd_L1 l0 (rd x6_1 0)) x27_2) false _ ?side1 ?side2 A17.out).mono ?_); (case side1 => repeat (first | exact (Kd.V_reads' HO_5.out).2.2 | (with_reducible refine Kd.C_alloc ?_ _) | (with_reducible refine Kd.C_drewN ?_ _) | (with_reducible refine Kd.C_drew ?_))); (case side2 => exact (Kd.V_reads' HO_5.out).2.1); rintro e w' ⟨rfl, ⟨nd, rfl⟩⟩; refine ⟨_, rfl, ?_⟩) | ((with_reducible refine gate_callee (f := 45) rfl ?_); refine goesL_ (some 37) rfl rfl Try.func45 (by kernel_rfl) rfl #[.slice Ao22 x5_2.length co22, .int .i64 (rd (rd_L1 l0 (rd x6_1 0)) x27_2)] rfl (by (try simp only [List.map_toArray, List.map_cons, List.map_nil]); first | done | rfl | (simp only [List.length_drop, List.length_take]; rfl)) ?_; (with_reducible refine (spec_l1Put.calls k2 (fun k_ => ((w.heap.size ≤ k_) ∧ some k_ ≠ (u6 : Value).ownBlock)) _ _ x5_2 (rd (rd_L1 l0 (rd x6_1 0)) x27_2) t187 _ ?side1 A20.out).mono ?_); (case side1 => exact HO_5.out); rintro e w23 ⟨v188, rfl, ho0, hb⟩; refine ⟨_, rfl, ?_⟩; have n0_ := Aside0.mk (Kd.V_below (by (with_reducible repeat (first | apply Kd.V_alloc | apply Kd.V_drewN | apply Kd.V_drew)); exact HO_5.out) hb); have n1_ := Aside0.mk (Kd.Q_below (by (with_reducible repeat (first | apply Kd.Q_alloc | apply Kd.Q_drewN | apply Kd.Q_drew)); exact HO_6.out) hb); have n2_ := Aside0.mk (Kd.V_lower (Kd.V_mono (ok' := fun k_ => (w.heap.size ≤ k_) ∧ some k_ ≠ (u6 : Value).ownBlock) ho0 (fun k_ hk_ => ⟨Or.elim hk_ (fun hs_ => hs_.1) (fun hn_ => (Nat.le_trans (below_size (by repeat (first | (with_reducible first | exact HB.out | apply below_alloc | apply pw_below_drewN | apply below_drew1) | exact HB.out))) hn_)), Or.elim hk_ (fun hs_ => hs_.2) (fun hn_ => (Kd.fresh' (Kd.Q_lt (by (with_reducible repeat (first | apply Kd.Q_alloc | apply Kd.Q_drewN | apply Kd.Q_drew)); exact HO_6.out)) k_ hn_))⟩)) (below_size (by repeat (first | (with_reducible first | exact HB.out | apply below_alloc | apply pw_below_drewN | apply below_drew1) | exact HB.out)))); have n3_ := Aside0.mk (below_step (by repeat (first | (with_reducible first | exact HB.out | apply below_alloc | apply pw_below_drewN | apply below_drew1) | exact HB.out)) hb); clear HO_5; clear HO_6; clear HB; have HO_5 := n0_; have HO_6 := n1_; have HO189 := n2_; have HB := n3_; clear n0_ n1_ n2_ n3_; (try clear hb); (try clear hb2); (try clear hk); (try clear hi); (try clear ho0)) | ((with_reducible refine gate_builtin (b := .append) (xs := #[.tmp 38, .tmp 40]) rfl ?_); at_builtin; refine Kd.Q_append (Kd.int .i64) (w0 := w) w.heap.size rfl (.tmp 38) (.tmp 40) 24 3 (.int .i64 0) 8 rfl Try.underlying24 info3 rfl (by decide) (by omega) u6 x6_2 (rd (rd_L1 l0 (rd x6_1 0)) x27_2) [.int .i64 (rd (rd_L1 l0 (rd x6_1 0)) x27_2)] (fun k_ => (w.heap.size ≤ k_)) (fun _ => False) rfl rfl ?aP (fun _ hk => hk.elim) ?aF ?aO ?aB ?aS ?aL ?_; (case aP => exact rfl); (case aB => exact (by repeat (first | (with_reducible first | exact HB.out | apply below_alloc | apply pw_below_drewN | apply below_drew1) | exact HB.out))); (case aF => exact (fun k_ hk => (Nat.le_trans (below_size (by repeat (first | (with_reducible first | exact HB.out | apply below_alloc | apply pw_below_drewN | apply below_drew1) | exact HB.out))) hk))); (case aO => exact (by (with_reducible repeat (first | apply Kd.Q_alloc | apply Kd.Q_drewN | apply Kd.Q_drew)); exact HO_6.out)); (case aS => exact (below_size (by repeat (first | (with_reducible first | exact HB.out | apply below_alloc | apply pw_below_drewN | apply below_drew1) | exact HB.out)))); (case aL => have := LMc21.out; omega); intro v191 w24 ho hb hg hat; rw [← Ny190.out] at ho; have n0_ := Aside0.mk (Kd.V_afterv (ok := (fun k_ => (w.heap.size ≤ k_))) (by (with_reducible repeat (first | apply Kd.V_alloc | apply Kd.V_drewN | apply Kd.V_drew)); exact HO_5.out) hg hat); have n1_ := Aside0.mk (Kd.V_afterv (ok := (fun k_ => (w.heap.size ≤ k_))) (by (with_reducible repeat (first | apply Kd.V_alloc | apply Kd.V_drewN | apply Kd.V_drew)); exact HO189.out) hg hat); have n2_ := Aside0.mk (hb); have n3_ := Aside0.mk (ho); clear HO_5; clear HO189; clear HB; clear HO_6; have HO_5 := n0_; have HO189 := n1_; have HB := n2_; have HO192 := n3_; clear n0_ n1_ n2_ n3_; clear ho hb hg hat))
                              go_roundg k2
                              case measure => have := HK1.out; have := HK2.out; omega
                              case rel => exact ⟨(t187), (y190), (wrap64 (x27_2 + 1)), (by first | rfl | (simp; done) | (simp [*]; done)), H', ⟨by have := HK1.out; have := HK2.out; omega⟩, ⟨by (with_reducible repeat (first | apply Kd.V_alloc | apply Kd.V_drewN | apply Kd.V_drew)); exact HO189.out⟩, ⟨by (with_reducible repeat (first | apply Kd.Q_alloc | apply Kd.Q_drewN | apply Kd.Q_drew)); exact HO192.out⟩, ⟨by repeat (first | (with_reducible first | exact HB.out | apply below_alloc | apply pw_below_drewN | apply below_drew1) | exact HB.out)⟩⟩
                            · rw [if_neg c21] at H
                              exact absurd H (by simp)
                        · rw [if_neg c16] at H
                          exact absurd H (by simp)
                      · rw [if_neg c15] at H
                        exact absurd H (by simp)
                    · rw [if_neg c14] at H
                      have c14b0 : decide (x27_2 < ((rd_L1 l0 (rd x6_1 0)).length : Int)) = false := decide_eq_false c14
                      clear c14
                      have H' := Aside0.mk H
                      clear H
                      go_wp2
                      go_roundg k2
                      case measure => have := HK1.out; have := HK2.out; omega
                      case rel => exact ⟨(x5_2), (x6_2), H', ⟨by have := HK1.out; have := HK2.out; omega⟩, ⟨by (with_reducible repeat (first | apply Kd.V_alloc | apply Kd.V_drewN | apply Kd.V_drew)); exact HO_5.out⟩, ⟨by (with_reducible repeat (first | apply Kd.Q_alloc | apply Kd.Q_drewN | apply Kd.Q_drew)); exact HO_6.out⟩, ⟨by repeat (first | (with_reducible first | exact HB.out | apply below_alloc | apply pw_below_drewN | apply below_drew1) | exact HB.out)⟩⟩
              · rw [if_neg c11] at H
                exact absurd H (by simp)
            · rw [if_neg c10] at H
              exact absurd H (by simp)
          · rw [if_neg c9] at H
            exact absurd H (by simp)
        · rw [if_neg c8] at H
          exact absurd H (by simp)
      · rw [if_neg c7] at H
        have c7b0 : decide (0 < (x6_1.length : Int)) = false := decide_eq_false c7
        have c7b1 : decide (0 < x6_1.length) = false := decide_eq_false (by omega)
        clear c7
        obtain rfl := Option.some.inj H
        obtain ⟨Ao25, co25, eo25, _⟩ := Kd.Q_slice HO_6.out
        subst eo25
        go_wp2
        go_ret
        exact ⟨_, by first | rfl | (simp [errW_none, errW_some] <;> rfl) | (simp [*, errW_none, errW_some] <;> rfl), by (with_reducible repeat (first | apply Kd.V_alloc | apply Kd.V_drewN | apply Kd.V_drew)); exact Kd.V_mono HO_5.out (fun _ hk => hk.1), by repeat (first | (with_reducible first | exact HB.out | apply below_alloc | apply pw_below_drewN | apply below_drew1) | exact HB.out)⟩

/-! ### spec_l9Group: function 68 -/
def spec_l9Group.l0 : Nat → List (List Int) → Int → List Int → List Int → Int → Int → Option (List Int)
  | 0, _, _, _, _, _, _ => none
  | k + 1, x0, x1, x5, x10, x11, x12 => if x12 < x11 then (if 0 ≤ x12 then (if x12 < (x10.length : Int) then ((spec_l9Reach.f k x0 (rd x10 x12)).bind fun t197 => ((spec_l1Has.f k t197 x1).bind fun t200 => (if t200 = true then (if x5.length < 17592186044416 then (spec_l9Group.l0 k x0 x1 (x5 ++ [rd x10 x12]) x10 x11 (wrap64 (x12 + 1))) else (none)) else (spec_l9Group.l0 k x0 x1 x5 x10 x11 (wrap64 (x12 + 1)))))) else (none)) else (none)) else (some x5)
def spec_l9Group.f (k : Nat) (l0 : List (List Int)) (a1 : Int) : Option (List Int) := (spec_l9Reach.f k l0 a1).bind fun t193 => (spec_l9Group.l0 k l0 a1 ([] : List Int) t193 (t193.length : Int) 0)
theorem spec_l9Group.mono_l : ∀ k, (∀ y0 y1 y2 y3 y4 y5, LeO (spec_l9Group.l0 k y0 y1 y2 y3 y4 y5) (spec_l9Group.l0 (k + 1) y0 y1 y2 y3 y4 y5))
  | 0 => fun _ _ _ _ _ _ r h => by simp [spec_l9Group.l0] at h
  | k + 1 => by
    have ih0 := spec_l9Group.mono_l k
    · intro y0 y1 y2 y3 y4 y5
      unfold spec_l9Group.l0
      repeat' first
      | (with_reducible exact ih0 _ _ _ _ _ _)
      | (with_reducible exact spec_l1Has.mono _ _ _)
      | (with_reducible exact spec_l9Reach.mono _ _ _)
      | (with_reducible exact LeO.refl _)
      | (with_reducible exact LeO.none _)
      | (with_reducible refine LeO.ite ?_ ?_)
      | (with_reducible refine LeO.bind ?_ (fun _ => ?_))
      | exact ih0 _ _ _ _ _ _
      | exact spec_l1Has.mono _ _ _
      | exact spec_l9Reach.mono _ _ _
      | exact LeO.none _
      | refine LeO.ite ?_ ?_
      | refine LeO.bind ?_ (fun _ => ?_)
theorem spec_l9Group.mono : ∀ a0 a1 k, LeO (spec_l9Group.f k a0 a1) (spec_l9Group.f (k + 1) a0 a1) := by
  intro a0 a1 k
  have ih0 := spec_l9Group.mono_l k
  unfold spec_l9Group.f
  repeat' first
      | (with_reducible exact ih0 _ _ _ _ _ _)
      | (with_reducible exact spec_l1Has.mono _ _ _)
      | (with_reducible exact spec_l9Reach.mono _ _ _)
      | (with_reducible exact LeO.refl _)
      | (with_reducible exact LeO.none _)
      | (with_reducible refine LeO.ite ?_ ?_)
      | (with_reducible refine LeO.bind ?_ (fun _ => ?_))
      | exact ih0 _ _ _ _ _ _
      | exact spec_l1Has.mono _ _ _
      | exact spec_l9Reach.mono _ _ _
      | exact LeO.none _
      | refine LeO.ite ?_ ?_
      | refine LeO.bind ?_ (fun _ => ?_)
set_option maxHeartbeats 8000000 in
set_option maxRecDepth 100000 in
theorem spec_l9Group.calls (k : Nat) (A0 : Option Addr) (c0 : Nat) (l0 : List (List Int)) (a1 : Int) (r : List Int) (w : World) (hr0 : Kd.C (Kd.slice 3 (Kd.int .i64)) w A0 l0.length l0) (hc0 : l0.length ≤ c0) (h : spec_l9Group.f k l0 a1 = some r) :
    Calls Try.prog 68 #[.slice A0 l0.length c0, .int .i64 a1] w fun e w' => ∃ v0_ : Value, e = .returned (v0_) ∧ Kd.R (Kd.int .i64) 3 w' w.heap.size (fun _ => True) v0_ r ∧ Below w.heap.size w w' := by
  have HR0 := Aside0.mk hr0
  have HC0 := Aside0.mk hc0
  clear hr0 hc0
  have HB := Aside0.mk (Below.refl w.heap.size w)
  have H : ((spec_l9Reach.f k l0 a1).bind fun t193 => (spec_l9Group.l0 k l0 a1 ([] : List Int) t193 (t193.length : Int) 0)) = some r := h
  clear h
  replace H := Option.bind_eq_some_iff.mp H
  obtain ⟨t193, A30, H⟩ := H
  replace H : (spec_l9Group.l0 k l0 a1 ([] : List Int) t193 (t193.length : Int) 0) = some r := H
  have A3 := Aside0.mk A30
  clear A30
  have H' := Aside0.mk H
  clear H
  go_enter Try.func68, Try.ntmps68
  go_wp2_with (first | ((with_reducible refine gate_callee (f := 69) rfl ?_); refine goesL_ (some 10) rfl rfl Try.func69 (by kernel_rfl) rfl #[.slice A0 l0.length c0, .int .i64 a1] rfl (by (try simp only [List.map_toArray, List.map_cons, List.map_nil]); first | done | rfl | (simp only [List.length_drop, List.length_take]; rfl)) ?_; (with_reducible refine (spec_l9Reach.calls k _ _ l0 a1 t193 _ ?side1 ?side2 A3.out).mono ?_); (case side1 => repeat (first | exact HR0.out | (with_reducible refine Kd.C_alloc ?_ _) | (with_reducible refine Kd.C_drewN ?_ _) | (with_reducible refine Kd.C_drew ?_))); (case side2 => exact HC0.out); rintro e w4 ⟨v194, rfl, ho0, hb⟩; refine ⟨_, rfl, ?_⟩; have n0_ := Aside0.mk (Kd.V_lower (Kd.V_mono (ok' := fun k_ => True) ho0 (fun k_ hk_ => trivial)) (below_size (by repeat (first | (with_reducible first | exact HB.out | apply below_alloc | apply pw_below_drewN | apply below_drew1) | exact HB.out)))); have n1_ := Aside0.mk (below_step (by repeat (first | (with_reducible first | exact HB.out | apply below_alloc | apply pw_below_drewN | apply below_drew1) | exact HB.out)) hb); clear HB; have HO195 := n0_; have HB := n1_; clear n0_ n1_; (try clear hb); (try clear hb2); (try clear hk); (try clear hi); (try clear ho0); obtain ⟨Ao5, co5, eo5⟩ := Kd.V_slice HO195.out; subst eo5))
  go_loopg [5, 12] k (fun kq v5 v12 w' => ∃ (x5_1 : List Int) (x12_1 : Int), v12 = .int .i64 x12_1 ∧ Aside0 (spec_l9Group.l0 kq l0 a1 x5_1 t193 (t193.length : Int) x12_1 = some r) ∧ Aside0 (kq ≤ k) ∧ Aside0 (Kd.R (Kd.int .i64) 3 w' w.heap.size (fun _ => True) v5 x5_1) ∧ Aside0 (Kd.V (Kd.int .i64) 3 w' w.heap.size (fun k_ => some k_ ≠ (v5 : Value).ownBlock) (.slice Ao5 t193.length co5) t193) ∧ Aside0 (Below w.heap.size w w'))
  case atStart => exact ⟨(([] : List Int)), (0), (by first | rfl | (simp; done) | (simp [*]; done)), H', ⟨Nat.le_refl _⟩, ⟨by first | exact Kd.R_nil _ _ _ _ _ | exact Kd.N_nil _ _ _ _ _ | exact Kd.V_nil _ _ _ _ _ | exact Kd.Q_nil _ _ _ _ _ | exact Kd.S_nil _ _ _ _ _⟩, ⟨by (with_reducible repeat (first | apply Kd.V_alloc | apply Kd.V_drewN | apply Kd.V_drew)); exact Kd.V_mono HO195.out (fun _ hk => (by simp [Value.ownBlock]))⟩, ⟨by repeat (first | (with_reducible first | exact HB.out | apply below_alloc | apply pw_below_drewN | apply below_drew1) | exact HB.out)⟩⟩
  case round =>
    clear H'
    try clear p2
    obtain ⟨x5_1, x12_1, rfl, HA, HK1, HO_5, HO_10, HB⟩ := hrel
    cases gk with
    | zero => exact absurd HA.out (by simp [spec_l9Group.l0])
    | succ k1 =>
      have H := HA.out
      clear HA
      simp only [spec_l9Group.l0] at H
      by_cases c6 : x12_1 < (t193.length : Int)
      · rw [if_pos c6] at H
        have c6b0 : decide (x12_1 < (t193.length : Int)) = true := decide_eq_true c6
        clear c6
        by_cases c7 : 0 ≤ x12_1
        · rw [if_pos c7] at H
          have c7b0 : decide (0 ≤ x12_1) = true := decide_eq_true c7
          clear c7
          by_cases c8 : x12_1 < (t193.length : Int)
          · rw [if_pos c8] at H
            have c8b0 : decide (x12_1 < (t193.length : Int)) = true := decide_eq_true c8
            clear c8
            replace H := Option.bind_eq_some_iff.mp H
            obtain ⟨t197, A90, H⟩ := H
            replace H : ((spec_l1Has.f k1 t197 a1).bind fun t200 => (if t200 = true then (if x5_1.length < 17592186044416 then (spec_l9Group.l0 k1 l0 a1 (x5_1 ++ [rd t193 x12_1]) t193 (t193.length : Int) (wrap64 (x12_1 + 1))) else (none)) else (spec_l9Group.l0 k1 l0 a1 x5_1 t193 (t193.length : Int) (wrap64 (x12_1 + 1))))) = some r := H
            have A9 := Aside0.mk A90
            clear A90
            replace H := Option.bind_eq_some_iff.mp H
            obtain ⟨t200, A100, H⟩ := H
            replace H : (if t200 = true then (if x5_1.length < 17592186044416 then (spec_l9Group.l0 k1 l0 a1 (x5_1 ++ [rd t193 x12_1]) t193 (t193.length : Int) (wrap64 (x12_1 + 1))) else (none)) else (spec_l9Group.l0 k1 l0 a1 x5_1 t193 (t193.length : Int) (wrap64 (x12_1 + 1)))) = some r := H
            have A10 := Aside0.mk A100
            clear A100
            by_cases c11 : t200 = true
            · subst c11
              have H1 : (if x5_1.length < 17592186044416 then (spec_l9Group.l0 k1 l0 a1 (x5_1 ++ [rd t193 x12_1]) t193 (t193.length : Int) (wrap64 (x12_1 + 1))) else (none)) = some r := by rw [if_pos rfl] at H; exact H
              clear H
              have H := H1
              clear H1
              by_cases c12 : x5_1.length < 17592186044416
              · rw [if_pos c12] at H
                have LMc12 := Aside0.mk c12
                clear c12
                obtain ⟨y201, hy201⟩ : ∃ y_ : List Int, y_ = (x5_1 ++ [rd t193 x12_1]) := ⟨_, rfl⟩
                replace H : (spec_l9Group.l0 k1 l0 a1 y201 t193 (t193.length : Int) (wrap64 (x12_1 + 1))) = some r := by first | (rw [hy201]; with_reducible exact H) | (have H2_ := (Option.bind_some _ _).symm.trans H; rw [hy201]; with_reducible exact H2_) | (have H2_ := (Option.bind_some _ _).symm.trans H; with_reducible exact H2_) | with_reducible exact H | (rw [hy201]; exact H) | exact H
                have Ny201 := Aside0.mk hy201
                clear hy201
                have H' := Aside0.mk H
                clear H
                have p196 : 0 ≤ (x12_1 : Int) := of_decide_eq_true (by first | (with_reducible assumption) | assumption)
                have q196 : x12_1 < (t193.length : Int) := of_decide_eq_true (by first | (with_reducible assumption) | assumption)
                obtain ⟨ad196, e196, hx196_0⟩ := Kd.at_int (Kd.V_reads' HO_10.out).2.2 x12_1 p196 q196
                cases e196
                replace p196 := eq_true p196
                replace q196 := eq_true q196
                go_wp2_with (first | ((with_reducible refine gate_callee (f := 69) rfl ?_); refine goesL_ (some 18) rfl rfl Try.func69 (by kernel_rfl) rfl #[.slice A0 l0.length c0, .int .i64 (rd t193 x12_1)] rfl (by (try simp only [List.map_toArray, List.map_cons, List.map_nil]); first | done | rfl | (simp only [List.length_drop, List.length_take]; rfl)) ?_; (with_reducible refine (spec_l9Reach.calls k1 _ _ l0 (rd t193 x12_1) t197 _ ?side1 ?side2 A9.out).mono ?_); (case side1 => repeat (first | exact (Kd.C_below HR0.out HB.out) | (with_reducible refine Kd.C_alloc ?_ _) | (with_reducible refine Kd.C_drewN ?_ _) | (with_reducible refine Kd.C_drew ?_))); (case side2 => exact HC0.out); rintro e w13 ⟨v198, rfl, ho0, hb⟩; refine ⟨_, rfl, ?_⟩; have n0_ := Aside0.mk (Kd.R_below (by (with_reducible repeat (first | apply Kd.R_alloc | apply Kd.R_drewN | apply Kd.R_drew)); exact HO_5.out) hb); have n1_ := Aside0.mk (Kd.V_below (by (with_reducible repeat (first | apply Kd.V_alloc | apply Kd.V_drewN | apply Kd.V_drew)); exact HO_10.out) hb); have n2_ := Aside0.mk (Kd.V_lower (Kd.V_mono (ok' := fun k_ => some k_ ≠ (u5 : Value).ownBlock) ho0 (fun k_ hk_ => (Kd.fresh' (Kd.R_lt (by (with_reducible repeat (first | apply Kd.R_alloc | apply Kd.R_drewN | apply Kd.R_drew)); exact HO_5.out)) k_ hk_))) (below_size (by repeat (first | (with_reducible first | exact HB.out | apply below_alloc | apply pw_below_drewN | apply below_drew1) | exact HB.out)))); have n3_ := Aside0.mk (below_step (by repeat (first | (with_reducible first | exact HB.out | apply below_alloc | apply pw_below_drewN | apply below_drew1) | exact HB.out)) hb); clear HO_5; clear HO_10; clear HB; have HO_5 := n0_; have HO_10 := n1_; have HO199 := n2_; have HB := n3_; clear n0_ n1_ n2_ n3_; (try clear hb); (try clear hb2); (try clear hk); (try clear hi); (try clear ho0); obtain ⟨Ao14, co14, eo14⟩ := Kd.V_slice HO199.out; subst eo14) | ((with_reducible refine gate_callee (f := 44) rfl ?_); refine goesL_ (some 20) rfl rfl Try.func44 (by kernel_rfl) rfl #[.slice Ao14 t197.length co14, .int .i64 a1] rfl (by (try simp only [List.map_toArray, List.map_cons, List.map_nil]); first | done | rfl | (simp only [List.length_drop, List.length_take]; rfl)) ?_; (with_reducible refine (spec_l1Has.calls k1 _ _ t197 a1 true _ ?side1 ?side2 A10.out).mono ?_); (case side1 => repeat (first | exact (Kd.V_reads' HO199.out).2.2 | (with_reducible refine Kd.C_alloc ?_ _) | (with_reducible refine Kd.C_drewN ?_ _) | (with_reducible refine Kd.C_drew ?_))); (case side2 => exact (Kd.V_reads' HO199.out).2.1); rintro e w' ⟨rfl, ⟨nd, rfl⟩⟩; refine ⟨_, rfl, ?_⟩) | ((with_reducible refine gate_builtin (b := .append) (xs := #[.tmp 21, .tmp 23]) rfl ?_); at_builtin; refine Kd.R_append (Kd.int .i64) (w0 := w) w.heap.size rfl (.tmp 21) (.tmp 23) 24 3 (.int .i64 0) 8 rfl Try.underlying24 info3 rfl (by decide) (by omega) u5 x5_1 (rd t193 x12_1) [.int .i64 (rd t193 x12_1)] (fun _ => True) (fun _ => False) rfl rfl ?aP (fun _ hk => hk.elim) ?aF ?aO ?aB ?aS ?aL ?_; (case aP => exact rfl); (case aB => exact (by repeat (first | (with_reducible first | exact HB.out | apply below_alloc | apply pw_below_drewN | apply below_drew1) | exact HB.out))); (case aF => exact (fun _ _ => trivial)); (case aO => exact (by (with_reducible repeat (first | apply Kd.R_alloc | apply Kd.R_drewN | apply Kd.R_drew)); exact HO_5.out)); (case aS => exact (below_size (by repeat (first | (with_reducible first | exact HB.out | apply below_alloc | apply pw_below_drewN | apply below_drew1) | exact HB.out)))); (case aL => have := LMc12.out; omega); intro v202 w15 ho hb hg hat; rw [← Ny201.out] at ho; have n0_ := Aside0.mk (Kd.V_afterv (ok := (fun _ => True)) (by (with_reducible repeat (first | apply Kd.V_alloc | apply Kd.V_drewN | apply Kd.V_drew)); exact Kd.V_mono HO_10.out (fun _ hk => ⟨trivial, hk⟩)) hg hat); have n1_ := Aside0.mk (Kd.V_afterv (ok := (fun _ => True)) (by (with_reducible repeat (first | apply Kd.V_alloc | apply Kd.V_drewN | apply Kd.V_drew)); exact Kd.V_mono HO199.out (fun _ hk => ⟨trivial, hk⟩)) hg hat); have n2_ := Aside0.mk (hb); have n3_ := Aside0.mk (ho); clear HO_10; clear HO199; clear HB; clear HO_5; have HO_10 := n0_; have HO199 := n1_; have HB := n2_; have HO203 := n3_; clear n0_ n1_ n2_ n3_; clear ho hb hg hat))
                go_roundg k1
                case measure => have := HK1.out; omega
                case rel => exact ⟨(y201), (wrap64 (x12_1 + 1)), (by first | rfl | (simp; done) | (simp [*]; done)), H', ⟨by have := HK1.out; omega⟩, ⟨by (with_reducible repeat (first | apply Kd.R_alloc | apply Kd.R_drewN | apply Kd.R_drew)); exact HO203.out⟩, ⟨by (with_reducible repeat (first | apply Kd.V_alloc | apply Kd.V_drewN | apply Kd.V_drew)); exact Kd.V_mono HO_10.out (fun _ hk => hk.2)⟩, ⟨by repeat (first | (with_reducible first | exact HB.out | apply below_alloc | apply pw_below_drewN | apply below_drew1) | exact HB.out)⟩⟩
              · rw [if_neg c12] at H
                exact absurd H (by simp)
            · replace c11 := Bool.eq_false_iff.mpr c11
              subst c11
              have H1 : (spec_l9Group.l0 k1 l0 a1 x5_1 t193 (t193.length : Int) (wrap64 (x12_1 + 1))) = some r := by rw [if_neg (show ¬ (false = true) by decide)] at H; exact H
              clear H
              have H := H1
              clear H1
              have H' := Aside0.mk H
              clear H
              have p196 : 0 ≤ (x12_1 : Int) := of_decide_eq_true (by first | (with_reducible assumption) | assumption)
              have q196 : x12_1 < (t193.length : Int) := of_decide_eq_true (by first | (with_reducible assumption) | assumption)
              obtain ⟨ad196, e196, hx196_0⟩ := Kd.at_int (Kd.V_reads' HO_10.out).2.2 x12_1 p196 q196
              cases e196
              replace p196 := eq_true p196
              replace q196 := eq_true q196
              go_wp2_with (first | ((with_reducible refine gate_callee (f := 69) rfl ?_); refine goesL_ (some 18) rfl rfl Try.func69 (by kernel_rfl) rfl #[.slice A0 l0.length c0, .int .i64 (rd t193 x12_1)] rfl (by (try simp only [List.map_toArray, List.map_cons, List.map_nil]); first | done | rfl | (simp only [List.length_drop, List.length_take]; rfl)) ?_; (with_reducible refine (spec_l9Reach.calls k1 _ _ l0 (rd t193 x12_1) t197 _ ?side1 ?side2 A9.out).mono ?_); (case side1 => repeat (first | exact (Kd.C_below HR0.out HB.out) | (with_reducible refine Kd.C_alloc ?_ _) | (with_reducible refine Kd.C_drewN ?_ _) | (with_reducible refine Kd.C_drew ?_))); (case side2 => exact HC0.out); rintro e w16 ⟨v198, rfl, ho0, hb⟩; refine ⟨_, rfl, ?_⟩; have n0_ := Aside0.mk (Kd.R_below (by (with_reducible repeat (first | apply Kd.R_alloc | apply Kd.R_drewN | apply Kd.R_drew)); exact HO_5.out) hb); have n1_ := Aside0.mk (Kd.V_below (by (with_reducible repeat (first | apply Kd.V_alloc | apply Kd.V_drewN | apply Kd.V_drew)); exact HO_10.out) hb); have n2_ := Aside0.mk (Kd.V_lower (Kd.V_mono (ok' := fun k_ => some k_ ≠ (u5 : Value).ownBlock) ho0 (fun k_ hk_ => (Kd.fresh' (Kd.R_lt (by (with_reducible repeat (first | apply Kd.R_alloc | apply Kd.R_drewN | apply Kd.R_drew)); exact HO_5.out)) k_ hk_))) (below_size (by repeat (first | (with_reducible first | exact HB.out | apply below_alloc | apply pw_below_drewN | apply below_drew1) | exact HB.out)))); have n3_ := Aside0.mk (below_step (by repeat (first | (with_reducible first | exact HB.out | apply below_alloc | apply pw_below_drewN | apply below_drew1) | exact HB.out)) hb); clear HO_5; clear HO_10; clear HB; have HO_5 := n0_; have HO_10 := n1_; have HO199 := n2_; have HB := n3_; clear n0_ n1_ n2_ n3_; (try clear hb); (try clear hb2); (try clear hk); (try clear hi); (try clear ho0); obtain ⟨Ao17, co17, eo17⟩ := Kd.V_slice HO199.out; subst eo17) | ((with_reducible refine gate_callee (f := 44) rfl ?_); refine goesL_ (some 20) rfl rfl Try.func44 (by kernel_rfl) rfl #[.slice Ao17 t197.length co17, .int .i64 a1] rfl (by (try simp only [List.map_toArray, List.map_cons, List.map_nil]); first | done | rfl | (simp only [List.length_drop, List.length_take]; rfl)) ?_; (with_reducible refine (spec_l1Has.calls k1 _ _ t197 a1 false _ ?side1 ?side2 A10.out).mono ?_); (case side1 => repeat (first | exact (Kd.V_reads' HO199.out).2.2 | (with_reducible refine Kd.C_alloc ?_ _) | (with_reducible refine Kd.C_drewN ?_ _) | (with_reducible refine Kd.C_drew ?_))); (case side2 => exact (Kd.V_reads' HO199.out).2.1); rintro e w' ⟨rfl, ⟨nd, rfl⟩⟩; refine ⟨_, rfl, ?_⟩))
              go_roundg k1
              case measure => have := HK1.out; omega
              case rel => exact ⟨(x5_1), (wrap64 (x12_1 + 1)), (by first | rfl | (simp; done) | (simp [*]; done)), H', ⟨by have := HK1.out; omega⟩, ⟨by (with_reducible repeat (first | apply Kd.R_alloc | apply Kd.R_drewN | apply Kd.R_drew)); exact HO_5.out⟩, ⟨by (with_reducible repeat (first | apply Kd.V_alloc | apply Kd.V_drewN | apply Kd.V_drew)); exact HO_10.out⟩, ⟨by repeat (first | (with_reducible first | exact HB.out | apply below_alloc | apply pw_below_drewN | apply below_drew1) | exact HB.out)⟩⟩
          · rw [if_neg c8] at H
            exact absurd H (by simp)
        · rw [if_neg c7] at H
          exact absurd H (by simp)
      · rw [if_neg c6] at H
        have c6b0 : decide (x12_1 < (t193.length : Int)) = false := decide_eq_false c6
        clear c6
        obtain rfl := Option.some.inj H
        go_wp2
        go_ret
        exact ⟨_, by first | rfl | (simp [errW_none, errW_some] <;> rfl) | (simp [*, errW_none, errW_some] <;> rfl), by (with_reducible repeat (first | apply Kd.R_alloc | apply Kd.R_drewN | apply Kd.R_drew)); exact HO_5.out, by repeat (first | (with_reducible first | exact HB.out | apply below_alloc | apply pw_below_drewN | apply below_drew1) | exact HB.out)⟩

/-! ### spec_l9Groups: function 39, by hand -/
def spec_l9Groups.ready (k : Nat) (done g : List Int) : List Int → Bool → Option Bool
  | [], b => some b
  | x :: xs, b => if b = true then ((spec_l1Has.f k done x).bind fun t => if t = true then spec_l9Groups.ready k done g xs true else (spec_l1Has.f k g x).bind fun u => spec_l9Groups.ready k done g xs u) else spec_l9Groups.ready k done g xs false
def spec_l9Groups.put (k : Nat) : List Int → List Int → Option (List Int)
  | [], done => some done
  | x :: xs, done => (spec_l1Put.f k done x).bind fun d => spec_l9Groups.put k xs d
def spec_l9Groups.find (k : Nat) (l : List (List Int)) (done : List Int) : Nat → Nat → Option (Option (List Int))
  | 0, _ => some none
  | d + 1, i => (spec_l1Has.f k done (i : Int)).bind fun t => if t = true then spec_l9Groups.find k l done d (i + 1) else (spec_l9Group.f k l (i : Int)).bind fun g => (spec_l9Reach.f k l (i : Int)).bind fun xs => (spec_l9Groups.ready k done g xs true).bind fun b => if b = true then some (some g) else spec_l9Groups.find k l done d (i + 1)
def spec_l9Groups.go (k : Nat) (l : List (List Int)) : Nat → List (List Int) → List Int → Option (List (List Int))
  | 0, out, done => if done.length < l.length then none else some out
  | d + 1, out, done => if done.length < l.length then (spec_l9Groups.find k l done l.length 0).bind fun og => og.bind fun g => (spec_l9Groups.put k g done).bind fun done' => spec_l9Groups.go k l d (out ++ [g]) done' else some out
def spec_l9Groups.f (k : Nat) (l0 : List (List Int)) : Option (List (List Int)) := if l0.length ≤ 12 then spec_l9Groups.go k l0 12 [] [] else none
theorem spec_l9Groups.ready_mono (k : Nat) (done g : List Int) : ∀ xs b, LeO (spec_l9Groups.ready k done g xs b) (spec_l9Groups.ready (k + 1) done g xs b)
  | [], b => by
    rw [spec_l9Groups.ready, spec_l9Groups.ready]
    exact LeO.refl _
  | x :: xs, b => by
    have ih := spec_l9Groups.ready_mono k done g xs
    rw [spec_l9Groups.ready, spec_l9Groups.ready]
    refine LeO.ite (LeO.bind (spec_l1Has.mono _ _ k) fun t => ?_) (ih _)
    exact LeO.ite (ih _) (LeO.bind (spec_l1Has.mono _ _ k) fun u => ih u)
theorem spec_l9Groups.put_mono (k : Nat) : ∀ xs done, LeO (spec_l9Groups.put k xs done) (spec_l9Groups.put (k + 1) xs done)
  | [], done => by
    rw [spec_l9Groups.put, spec_l9Groups.put]
    exact LeO.refl _
  | x :: xs, done => by
    have ih := spec_l9Groups.put_mono k xs
    rw [spec_l9Groups.put, spec_l9Groups.put]
    exact LeO.bind (spec_l1Put.mono _ _ k) fun d => ih d
theorem spec_l9Groups.find_mono (k : Nat) (l : List (List Int)) (done : List Int) : ∀ d i, LeO (spec_l9Groups.find k l done d i) (spec_l9Groups.find (k + 1) l done d i)
  | 0, i => by
    rw [spec_l9Groups.find, spec_l9Groups.find]
    exact LeO.refl _
  | d + 1, i => by
    have ih := spec_l9Groups.find_mono k l done d (i + 1)
    rw [spec_l9Groups.find, spec_l9Groups.find]
    refine LeO.bind (spec_l1Has.mono _ _ k) fun t => LeO.ite ih ?_
    refine LeO.bind (spec_l9Group.mono _ _ k) fun g => LeO.bind (spec_l9Reach.mono _ _ k) fun xs => LeO.bind (spec_l9Groups.ready_mono k done g xs true) fun b => ?_
    exact LeO.ite (LeO.refl _) ih
theorem spec_l9Groups.go_mono (k : Nat) (l : List (List Int)) : ∀ d out done, LeO (spec_l9Groups.go k l d out done) (spec_l9Groups.go (k + 1) l d out done)
  | 0, out, done => by
    rw [spec_l9Groups.go, spec_l9Groups.go]
    exact LeO.refl _
  | d + 1, out, done => by
    have ih := spec_l9Groups.go_mono k l d
    rw [spec_l9Groups.go, spec_l9Groups.go]
    refine LeO.ite (LeO.bind (spec_l9Groups.find_mono k l done _ _) fun og => LeO.bind (LeO.refl _) fun g => LeO.bind (spec_l9Groups.put_mono k g done) fun done' => ih _ _) (LeO.refl _)
theorem spec_l9Groups.mono : ∀ a0 k, LeO (spec_l9Groups.f k a0) (spec_l9Groups.f (k + 1) a0) := fun a0 k => by
  unfold spec_l9Groups.f
  exact LeO.ite (spec_l9Groups.go_mono k a0 12 [] []) (LeO.none _)
/-- What is kept while groups are told by the reference: nobody writes into what is told done. -/
def h_SG (w0 w : World) (out : List (List Int)) (done : List Int) (vo vd : Value) : Prop :=
  ∃ O P : Nat → Prop, (∀ k, O k → ¬ P k) ∧ Kd.S (Kd.slice 3 (Kd.int .i64)) 24 w w0.heap.size O vo out ∧ Kd.V (Kd.int .i64) 3 w w0.heap.size P vd done ∧ Below w0.heap.size w0 w
theorem h_at {w : World} {A : Option Addr} {xs : List Int} (h : Kd.C (Kd.int .i64) w A xs.length xs) (j : Nat) (hj : j < xs.length) : ∃ ad, A = some ad ∧ w.cell? (ad.add j) = some (.int .i64 (xs.getD j 0)) := by
  obtain ⟨ad, e, hc⟩ := Kd.at_int h (j : Int) (by omega) (by omega)
  rw [Int.toNat_natCast] at hc
  exact ⟨ad, e, by simpa [rd] using hc⟩
theorem h_drop (xs : List Int) (j : Nat) (hj : j < xs.length) : xs.drop j = xs.getD j 0 :: xs.drop (j + 1) := by
  rw [List.drop_eq_getElem_cons hj]
  simp [List.getD, List.getElem?_eq_getElem hj]
set_option maxHeartbeats 16000000 in
set_option maxRecDepth 100000 in
theorem h_sgroups (k : Nat) (A0 : Option Addr) (c0 : Nat) (l0 : List (List Int)) (r : List (List Int)) (w : World) (hr0 : Kd.C (Kd.slice 3 (Kd.int .i64)) w A0 l0.length l0) (hc0 : l0.length ≤ c0) (h : spec_l9Groups.f k l0 = some r) :
    Calls Try.prog 39 #[.slice A0 l0.length c0] w fun e w' => ∃ v0_ : Value, e = .returned v0_ ∧ Kd.S (Kd.slice 3 (Kd.int .i64)) 24 w' w.heap.size (fun _ => True) v0_ r ∧ Below w.heap.size w w' := by
  unfold spec_l9Groups.f at h
  by_cases h12 : l0.length ≤ 12
  rotate_left
  · rw [if_neg h12] at h
    cases h
  rw [if_pos h12] at h
  have HG := Lib.hid (show ∀ (i : Int) (rs : List Int) (W : World), Below w.heap.size w W → spec_l9Group.f k l0 i = some rs → Calls Try.prog 68 #[.slice A0 l0.length c0, .int .i64 i] W _ from fun i rs W hb hi => spec_l9Group.calls k A0 c0 l0 i rs W (Kd.C_below hr0 hb) hc0 hi)
  have HX := Lib.hid (show ∀ (i : Int) (rs : List Int) (W : World), Below w.heap.size w W → spec_l9Reach.f k l0 i = some rs → Calls Try.prog 69 #[.slice A0 l0.length c0, .int .i64 i] W _ from fun i rs W hb hi => spec_l9Reach.calls k A0 c0 l0 i rs W (Kd.C_below hr0 hb) hc0 hi)
  have H0 := Aside0.mk h
  clear hr0 hc0 h
  go_enter Try.func39, Try.ntmps39
  go_wp2
  go_loopg [3, 4] 12 (fun gg s3 s4 wr => ∃ (out : List (List Int)) (done : List Int) (vo vd : Value), vo = s3 ∧ vd = s4 ∧ out.length + gg ≤ 12 ∧ Aside0 (spec_l9Groups.go k l0 gg out done = some r) ∧ Aside0 (h_SG w wr out done vo vd))
  case atStart => exact ⟨[], [], _, _, rfl, rfl, by simp, H0, ⟨fun _ => False, fun _ => False, fun _ h_ => h_.elim, Kd.S_nil _ _ _ _ _, Kd.V_nil _ _ _ _ _, Below.refl _ _⟩⟩
  case round =>
    clear H0
    obtain ⟨out, done, vo, vd, rfl, rfl, hol, HGO, HSG⟩ := hrel
    obtain ⟨Ad, cd, rfl⟩ : ∃ Ad cd, vd = .slice Ad done.length cd := by
      obtain ⟨O, P, _, _, hV, _⟩ := HSG.out
      exact Kd.V_slice hV
    by_cases hdl : done.length < l0.length
    · have hdlz : (done.length : Int) < (l0.length : Int) := by omega
      have h := HGO.out
      obtain ⟨d, rfl⟩ : ∃ d, gk = d + 1 := by
        cases gk with
        | zero => rw [spec_l9Groups.go, if_pos hdl] at h; cases h
        | succ d => exact ⟨d, rfl⟩
      rw [spec_l9Groups.go, if_pos hdl] at h
      obtain ⟨og, hfind, h⟩ := Option.bind_eq_some_iff.1 h
      obtain ⟨g, hog, h2⟩ := Option.bind_eq_some_iff.1 h
      subst hog
      obtain ⟨doneF, hput, h3⟩ := Option.bind_eq_some_iff.1 h2
      have HF := Aside0.mk hfind
      have HPUT := Aside0.mk hput
      have HGN := Aside0.mk h3
      clear HGO hfind hput h h2 h3
      go_wp2
      go_loopg [3, 4, 19] l0.length (fun gg s3 s4 s19 wr => ∃ (i : Nat), vo = s3 ∧ s4 = .slice Ad done.length cd ∧ s19 = .int .i64 i ∧ i ≤ l0.length ∧ l0.length - i ≤ gg ∧ Aside0 (spec_l9Groups.find k l0 done (l0.length - i) i = some (some g)) ∧ Aside0 (h_SG w wr out done vo (.slice Ad done.length cd)))
      case atStart => exact ⟨0, rfl, rfl, rfl, Nat.zero_le _, by omega, HF, HSG⟩
      case round =>
        clear HF HSG
        obtain ⟨i, rfl, rfl, rfl, hil, hgg, HF, HSG⟩ := hrel
        have hlt : i < l0.length := by
          rcases Nat.lt_or_ge i l0.length with h_ | h_
          · exact h_
          · have h := HF.out
            rw [show l0.length - i = 0 by omega, spec_l9Groups.find] at h
            cases h
        have hltz : (i : Int) < (l0.length : Int) := by omega
        have h := HF.out
        rw [show l0.length - i = (l0.length - (i + 1)) + 1 by omega, spec_l9Groups.find] at h
        obtain ⟨t, ht, h⟩ := Option.bind_eq_some_iff.1 h
        obtain ⟨O, P, hOP, hS, hV, hB⟩ := HSG.out
        have hVC := Kd.V_reads' hV
        have HAS := Lib.hid (spec_l1Has.calls k Ad cd done (i : Int) t wr hVC.2.2 hVC.2.1 ht)
        cases t with
        | true =>
          rw [if_pos rfl] at h
          have HF2 := Aside0.mk h
          clear h ht hVC hS hV hB HF
          go_wp2_with (go_at_call 44; refine HAS.out.mono ?_; rintro e w2 ⟨rfl, hd⟩; have hb2 := hd.below; clear hd)
          go_roundg (l0.length - (i + 1))
          case measure => omega
          case rel =>
            obtain ⟨O, P, hOP, hS, hV, hB⟩ := HSG.out
            exact ⟨i + 1, rfl, rfl, by go_num, by omega, by omega, HF2, ⟨O, P, hOP, Kd.S_below hS hb2, ⟨Ad, cd, rfl, (Kd.V_reads' hV).2.1, Kd.F_below (Kd.V_F hV) hb2⟩, below_step hB hb2⟩⟩
        | false =>
          rw [if_neg (by simp)] at h
          obtain ⟨g2, hg2, h⟩ := Option.bind_eq_some_iff.1 h
          obtain ⟨xs, hxs, h⟩ := Option.bind_eq_some_iff.1 h
          obtain ⟨bf, hbf, h⟩ := Option.bind_eq_some_iff.1 h
          have HBo := Aside0.mk hB
          have HSo := Aside0.mk (Kd.S_bound hS)
          have HVo := Aside0.mk (Kd.F_bound (Kd.V_F hV))
          have HCl := Aside0.mk hVC.2.1
          have HGC := Lib.hid (fun (W : World) (hb : Below wr.heap.size wr W) => HG.out (i : Int) g2 W (below_step hB hb) hg2)
          have HXC := Lib.hid (fun (W : World) (hb : Below wr.heap.size wr W) => HX.out (i : Int) xs W (below_step hB hb) hxs)
          have HBF := Aside0.mk hbf
          have HNX := Aside0.mk h
          have HOP := Aside0.mk hOP
          clear hB hS hV hVC hg2 hxs hbf h hOP HSG HF ht
          go_wp2_with (first | (go_at_call 44; refine HAS.out.mono ?_; rintro e w2 ⟨rfl, hd⟩; have HB2 := Aside0.mk (show Below wr.heap.size wr w2 from hd.below); clear hd HAS) | (go_at_call 68; refine (HGC.out w2 HB2.out).mono ?_; rintro e w3 ⟨v5, rfl, hR, hb⟩; obtain ⟨Ag, cg, rfl⟩ := Kd.R_slice hR; have HRg := Aside0.mk hR; have HB3 := Aside0.mk hb; clear hR hb HGC) | (go_at_call 69; refine (HXC.out w3 (below_step HB2.out HB3.out)).mono ?_; rintro e w4 ⟨v6, rfl, hV6, hb⟩; obtain ⟨Ax, cx, rfl⟩ := Kd.V_slice hV6; have HVx := Aside0.mk hV6; have HB4 := Aside0.mk hb; clear hV6 hb HXC))
          -- all at w4
          have HB24 : Below wr.heap.size wr w4 := below_step (below_step HB2.out HB3.out) HB4.out
          have hsz2 : wr.heap.size ≤ w2.heap.size := HB2.out.size
          have HS4 := Aside0.mk (Kd.S_below HSo.out HB24)
          have HV4 := Aside0.mk (Kd.F_below HVo.out HB24)
          have HR4 := Aside0.mk (Kd.R_below HRg.out HB4.out)
          have HCx := Aside0.mk (Kd.V_reads' HVx.out).2.2
          have HBw := Aside0.mk (below_step HBo.out HB24)
          have hszw : w.heap.size ≤ wr.heap.size := HBo.out.size
          have hg5 : ∀ k_, some k_ = (.slice Ag g2.length cg : Value).ownBlock → wr.heap.size ≤ k_ ∧ k_ < w4.heap.size := fun k_ e_ => ⟨by have h_ := Kd.R_base HRg.out k_ e_.symm; omega, Kd.R_lt HR4.out k_ e_.symm⟩
          have hN4 : wr.heap.size ≤ w4.heap.size := HB24.size
          have hlow : w.heap.size ≤ w2.heap.size := by omega
          clear HSo HVo HB2 HB3 HB4 HRg HVx HBo HB24 hsz2
          generalize wr.heap.size = N at HS4 HV4 hszw hg5 hN4
          have hxl : xs.length ≤ 9223372036854775807 := HCx.out.2.1
          go_loopg [7, 32] xs.length (fun gg s7 s32 w5 => ∃ (j : Nat) (b : Bool), s7 = .bool b ∧ s32 = .int .i64 j ∧ j ≤ xs.length ∧ xs.length - j ≤ gg ∧ Aside0 (spec_l9Groups.ready k done g2 (xs.drop j) b = some bf) ∧ Aside0 (Below w4.heap.size w4 w5))
          case atStart => exact ⟨0, true, rfl, rfl, Nat.zero_le _, by omega, ⟨by rw [List.drop_zero]; exact HBF.out⟩, ⟨Below.refl _ _⟩⟩
          case round =>
            clear HBF
            obtain ⟨j, b, rfl, rfl, hjl, hgj, HRY, HB5⟩ := hrel
            by_cases hjt : j < xs.length
            · have hjz : (j : Int) < (xs.length : Int) := by omega
              have hj0 : (0 : Int) ≤ (j : Int) := by omega
              have h := HRY.out
              rw [h_drop xs j hjt, spec_l9Groups.ready] at h
              obtain ⟨ad, rfl, hx0⟩ := h_at (Kd.C_below HCx.out HB5.out) j hjt
              generalize xs.getD j 0 = x at h hx0
              cases b with
              | false =>
                rw [if_neg (by simp)] at h
                have HRN := Aside0.mk h
                clear h HRY
                go_wp2
                go_roundg (xs.length - (j + 1))
                case measure => omega
                case rel => exact ⟨j + 1, false, rfl, by go_num, by omega, by omega, HRN, HB5⟩
              | true =>
                rw [if_pos rfl] at h
                obtain ⟨t, ht, h⟩ := Option.bind_eq_some_iff.1 h
                have HA1 := Lib.hid (fun (W : World) (hb : Below w4.heap.size w4 W) => spec_l1Has.calls k Ad cd done x t W (Kd.F_now (Kd.F_below HV4.out hb)) HCl.out ht)
                cases t with
                | true =>
                  rw [if_pos rfl] at h
                  have HRN := Aside0.mk h
                  clear h HRY ht
                  go_wp2_with (first | (go_at_call 44; with_reducible refine (HA1.out _ HB5.out).mono ?_; rintro e w6 ⟨rfl, hd⟩; have HB6 := Aside0.mk (below_step HB5.out hd.below); clear hd))
                  go_roundg (xs.length - (j + 1))
                  case measure => omega
                  case rel => exact ⟨j + 1, true, rfl, by go_num, by omega, by omega, HRN, HB6⟩
                | false =>
                  rw [if_neg (by simp)] at h
                  obtain ⟨u, hu, h⟩ := Option.bind_eq_some_iff.1 h
                  have HA2 := Lib.hid (fun (W : World) (hb : Below w4.heap.size w4 W) => spec_l1Has.calls k Ag cg g2 x u W (Kd.C_below (Kd.R_reads' HR4.out).2.2 hb) (Kd.R_reads' HR4.out).2.1 hu)
                  have HRN := Aside0.mk h
                  clear h HRY ht hu
                  go_wp2_with (first | (go_at_call 44; with_reducible refine (HA1.out _ HB5.out).mono ?_; rintro e w6 ⟨rfl, hd⟩; have HB6 := Aside0.mk (below_step HB5.out hd.below); clear hd) | (go_at_call 44; with_reducible refine (HA2.out _ HB6.out).mono ?_; rintro e w7 ⟨rfl, hd⟩; have HB7 := Aside0.mk (below_step HB6.out hd.below); clear hd))
                  go_roundg (xs.length - (j + 1))
                  case measure => omega
                  case rel => exact ⟨j + 1, u, rfl, by go_num, by omega, by omega, HRN, HB7⟩
            · have hjz : ¬ (j : Int) < (xs.length : Int) := by omega
              have h := HRY.out
              rw [List.drop_of_length_le (by omega), spec_l9Groups.ready] at h
              obtain rfl := Option.some.inj h
              have hn := HNX.out
              clear h HRY HNX
              cases b with
              | false =>
                rw [if_neg (by simp)] at hn
                have HF2 := Aside0.mk hn
                clear hn
                go_wp2
                go_roundg (l0.length - (i + 1))
                case measure => omega
                case rel => exact ⟨i + 1, rfl, rfl, by go_num, by omega, by omega, HF2, ⟨O, fun k_ => P k_ ∧ k_ < N, fun k_ hk hp => HOP.out k_ hk hp.1, Kd.S_mono (Kd.S_below HS4.out HB5.out) (fun _ hk => hk.1), ⟨Ad, cd, rfl, HCl.out, Kd.F_below HV4.out HB5.out⟩, below_step HBw.out HB5.out⟩⟩
              | true =>
                rw [if_pos rfl] at hn
                obtain rfl : g2 = g := by simpa using hn
                clear hn
                have HS5 := Aside0.mk (Kd.S_below HS4.out HB5.out)
                have HV5 := Aside0.mk (Kd.F_below HV4.out HB5.out)
                have HR5 := Aside0.mk (Kd.R_tight rfl (Kd.R_lower (Kd.R_below HR4.out HB5.out) hlow))
                have HBw5 := Aside0.mk (below_step HBw.out HB5.out)
                have hsz5 : w4.heap.size ≤ wr.heap.size := HB5.out.size
                have hovo : ∀ k_, some k_ = vo.ownBlock → O k_ ∧ k_ < N := fun k_ e_ => by
                  have h_ := (Kd.S_R HS5.out).1 k_ e_.symm
                  exact ⟨h_.1, h_.2.2.1⟩
                clear HS4 HV4 HR4 HBw HB5 HCx
                go_wp2_with (first | ((with_reducible refine gate_builtin (b := .append) (xs := #[.tmp 49, .tmp 51]) rfl ?_); at_builtin; refine Kd.S_append (Kd.slice 3 (Kd.int .i64)) (w0 := w) w.heap.size rfl (.tmp 49) (.tmp 51) 22 24 (.slice none 0 0) 24 rfl Try.underlying22 info24 rfl (by decide) (by omega) vo out g2 [.slice Ag g2.length cg] (fun k_ => (O k_ ∧ k_ < N) ∨ some k_ = (.slice Ag g2.length cg : Value).ownBlock ∨ wr.heap.size ≤ k_) (fun k_ => some k_ = (.slice Ag g2.length cg : Value).ownBlock) rfl rfl ?aP ?aK ?aF ?aO ?aB ?aS ?aL ?_; (case aP => exact Kd.M_row HR5.out); (case aK => (intro k_ hk; refine ⟨.inr (.inl hk), fun e_ => ?_⟩; have h1_ := (hovo k_ e_).2; have h2_ := (hg5 k_ hk).1; omega)); (case aF => exact fun k_ hk => .inr (.inr hk)); (case aO => exact Kd.S_mono HS5.out (fun k_ hk => ⟨.inl ⟨hk.1, hk.2.2.1⟩, fun e_ => by have h1_ := (hg5 k_ e_).1; have h2_ := hk.2.2.1; omega⟩)); (case aB => exact HBw5.out); (case aS => exact HBw5.out.size); (case aL => omega); intro v9 w9 hS9 hB9 hg9 hat9; have HS9 := Aside0.mk (Kd.S_mono (ok' := fun k_ => ((O k_ ∧ k_ < N) ∨ some k_ = (.slice Ag g2.length cg : Value).ownBlock ∨ wr.heap.size ≤ k_) ∧ k_ < w9.heap.size) (Kd.S_bound hS9) (fun k_ hk => ⟨hk.1, hk.2.2.1⟩)); have HV9 := Aside0.mk (Kd.F_grown HV5.out hg9 (fun k_ hk e_ => HOP.out k_ (hovo k_ e_).1 hk.1)); have HR9 := Aside0.mk (Kd.R_reads' (Kd.R_grown HR5.out hg9 (fun k_ hk e_ => by have h1_ := (hovo k_ e_).2; have h2_ := (hg5 k_ hk).1; omega))).2.2; have HB9 := Aside0.mk hB9; have hsz9 : wr.heap.size ≤ w9.heap.size := hg9.size; clear hS9 hB9 hg9 hat9))
                clear HS5 HV5 HR5 HBw5
                have hgl : g2.length ≤ 9223372036854775807 := HR9.out.2.1
                generalize wr.heap.size = M at HS9 hsz5 hsz9
                go_loopg [4, 55] g2.length (fun gg s4 s55 w10 => ∃ (j : Nat) (dn : List Int) (vd : Value), vd = s4 ∧ s55 = .int .i64 j ∧ j ≤ g2.length ∧ g2.length - j ≤ gg ∧ Aside0 (spec_l9Groups.put k (g2.drop j) dn = some doneF) ∧ Aside0 (Kd.V (Kd.int .i64) 3 w10 w.heap.size (fun k_ => (P k_ ∧ k_ < N) ∨ w9.heap.size ≤ k_) vd dn) ∧ Aside0 (Below w9.heap.size w9 w10))
                case atStart => exact ⟨0, done, _, rfl, rfl, Nat.zero_le _, by omega, ⟨by rw [List.drop_zero]; exact HPUT.out⟩, ⟨Ad, cd, rfl, HCl.out, Kd.F_mono HV9.out (fun _ hk => .inl hk)⟩, ⟨Below.refl _ _⟩⟩
                case round =>
                  clear HPUT HV9
                  obtain ⟨j2, dn, vd, rfl, rfl, hj2, hgj2, HPT, HV10, HB10⟩ := hrel
                  obtain ⟨Adn, cdn, rfl⟩ := Kd.V_slice HV10.out
                  by_cases hjt : j2 < g2.length
                  · have hjz2 : (j2 : Int) < (g2.length : Int) := by omega
                    have hj02 : (0 : Int) ≤ (j2 : Int) := by omega
                    have h := HPT.out
                    rw [h_drop g2 j2 hjt, spec_l9Groups.put] at h
                    obtain ⟨d2, hd2, h⟩ := Option.bind_eq_some_iff.1 h
                    obtain ⟨ad2, e2_, hx2⟩ := h_at (Kd.C_below HR9.out HB10.out) j2 hjt
                    generalize g2.getD j2 0 = x2 at h hx2 hd2
                    have HPC := Lib.hid (spec_l1Put.calls k (fun k_ => (P k_ ∧ k_ < N) ∨ w9.heap.size ≤ k_) Adn cdn dn x2 d2 wr HV10.out hd2)
                    have HPN := Aside0.mk h
                    have hszr : w9.heap.size ≤ wr.heap.size := HB10.out.size
                    subst e2_
                    clear h HPT hd2
                    go_wp2_with (first | (go_at_call 45; refine HPC.out.mono ?_; rintro e w11 ⟨v11, rfl, hV11, hb⟩; have HV11 := Aside0.mk hV11; have HB11 := Aside0.mk hb; clear hV11 hb HPC))
                    go_roundg (g2.length - (j2 + 1))
                    case measure => omega
                    case rel => exact ⟨j2 + 1, d2, v11, rfl, by go_num, by omega, by omega, HPN, ⟨Kd.V_mono (base := wr.heap.size) HV11.out (fun k_ hk => hk.elim id (fun h_ => .inr (Nat.le_trans hszr h_)))⟩, ⟨below_step HB10.out HB11.out⟩⟩
                  · have hjz2 : ¬ (j2 : Int) < (g2.length : Int) := by omega
                    have h := HPT.out
                    rw [List.drop_of_length_le (by omega), spec_l9Groups.put] at h
                    obtain rfl := Option.some.inj h
                    clear h HPT
                    go_wp2
                    go_roundg d
                    case measure => omega
                    case rel =>
                      refine ⟨out ++ [g2], dn, v9, _, rfl, rfl, by rw [List.length_append, List.length_singleton]; omega, HGN, ⟨_, _, ?_, Kd.S_below HS9.out HB10.out, HV10.out, below_step HB9.out HB10.out⟩⟩
                      intro k_ hk hp
                      rcases hp with hp | hp
                      · rcases hk.1 with hq | hq | hq
                        · exact HOP.out k_ hq.1 hp.1
                        · have := (hg5 k_ hq).1
                          have := hp.2
                          omega
                        · have := hp.2
                          omega
                      · have := hk.2
                        omega
    · have hdlz : ¬ (done.length : Int) < (l0.length : Int) := by omega
      have h := HGO.out
      have e_ : out = r := by
        cases gk with
        | zero => rw [spec_l9Groups.go, if_neg hdl] at h; exact Option.some.inj h
        | succ d => rw [spec_l9Groups.go, if_neg hdl] at h; exact Option.some.inj h
      subst e_
      obtain ⟨O, P, _, hS, _, hB⟩ := HSG.out
      have HS := Aside0.mk hS
      have HB := Aside0.mk hB
      clear hS hB HSG HGO h
      go_wp2
      go_ret
      exact ⟨vo, by first | rfl | simp, Kd.S_mono HS.out (fun _ _ => trivial), HB.out⟩
-- (told above)
set_option maxHeartbeats 8000000 in
set_option maxRecDepth 100000 in
theorem spec_l9Groups.calls (k : Nat) (A0 : Option Addr) (c0 : Nat) (l0 : List (List Int)) (r : List (List Int)) (w : World) (hr0 : Kd.C (Kd.slice 3 (Kd.int .i64)) w A0 l0.length l0) (hc0 : l0.length ≤ c0) (h : spec_l9Groups.f k l0 = some r) :
    Calls Try.prog 39 #[.slice A0 l0.length c0] w fun e w' => ∃ v0_ : Value, e = .returned (v0_) ∧ Kd.S (Kd.slice 3 (Kd.int .i64)) 24 w' w.heap.size (fun _ => True) v0_ r ∧ Below w.heap.size w w' := by
  exact h_sgroups k A0 c0 l0 r w hr0 hc0 h

/-! ### spec_GroupsOf: function 21 -/
def spec_GroupsOf.f (k : Nat) (l0 : List (List Int)) : Option ((List (List Int)) × Bool) := (spec_GoodLinks.f k l0).bind fun t204 => (if t204 = true then ((spec_l9Groups.f k l0).bind fun t205 => (some (t205, true))) else (some (([] : List (List Int)), false)))
theorem spec_GroupsOf.mono : ∀ a0 k, LeO (spec_GroupsOf.f k a0) (spec_GroupsOf.f (k + 1) a0) := by
  intro a0 k
  unfold spec_GroupsOf.f
  repeat' first
      | (with_reducible exact spec_GoodLinks.mono _ _)
      | (with_reducible exact spec_l9Groups.mono _ _)
      | (with_reducible exact LeO.refl _)
      | (with_reducible exact LeO.none _)
      | (with_reducible refine LeO.ite ?_ ?_)
      | (with_reducible refine LeO.bind ?_ (fun _ => ?_))
      | exact spec_GoodLinks.mono _ _
      | exact spec_l9Groups.mono _ _
      | exact LeO.none _
      | refine LeO.ite ?_ ?_
      | refine LeO.bind ?_ (fun _ => ?_)
set_option maxHeartbeats 8000000 in
set_option maxRecDepth 100000 in
theorem spec_GroupsOf.calls (k : Nat) (A0 : Option Addr) (c0 : Nat) (l0 : List (List Int)) (r1 : List (List Int)) (r2 : Bool) (w : World) (hr0 : Kd.C (Kd.slice 3 (Kd.int .i64)) w A0 l0.length l0) (hc0 : l0.length ≤ c0) (h : spec_GroupsOf.f k l0 = some (r1, r2)) :
    Calls Try.prog 21 #[.slice A0 l0.length c0] w fun e w' => ∃ v0_ : Value, e = .returned (.tuple #[v0_, .bool r2]) ∧ Kd.S (Kd.slice 3 (Kd.int .i64)) 24 w' w.heap.size (fun _ => True) v0_ r1 ∧ Below w.heap.size w w' := by
  have HR0 := Aside0.mk hr0
  have HC0 := Aside0.mk hc0
  clear hr0 hc0
  have HB := Aside0.mk (Below.refl w.heap.size w)
  have H : ((spec_GoodLinks.f k l0).bind fun t204 => (if t204 = true then ((spec_l9Groups.f k l0).bind fun t205 => (some (t205, true))) else (some (([] : List (List Int)), false)))) = some (r1, r2) := h
  clear h
  replace H := Option.bind_eq_some_iff.mp H
  obtain ⟨t204, A20, H⟩ := H
  replace H : (if t204 = true then ((spec_l9Groups.f k l0).bind fun t205 => (some (t205, true))) else (some (([] : List (List Int)), false))) = some (r1, r2) := H
  have A2 := Aside0.mk A20
  clear A20
  by_cases c3 : t204 = true
  · subst c3
    have H1 : ((spec_l9Groups.f k l0).bind fun t205 => (some (t205, true))) = some (r1, r2) := by rw [if_pos rfl] at H; exact H
    clear H
    have H := H1
    clear H1
    replace H := Option.bind_eq_some_iff.mp H
    obtain ⟨t205, A40, H⟩ := H
    replace H : (some (t205, true)) = some (r1, r2) := H
    have A4 := Aside0.mk A40
    clear A40
    simp only [Option.some.injEq, Prod.mk.injEq] at H
    obtain ⟨rfl, rfl⟩ := H
    go_enter Try.func21, Try.ntmps21
    go_wp2_with (first | ((with_reducible refine gate_callee (f := 38) rfl ?_); refine goesL_ (some 5) rfl rfl Try.func38 (by kernel_rfl) rfl #[.slice A0 l0.length c0] rfl (by (try simp only [List.map_toArray, List.map_cons, List.map_nil]); first | done | rfl | (simp only [List.length_drop, List.length_take]; rfl)) ?_; (with_reducible refine (spec_GoodLinks.calls k _ _ l0 true _ ?side1 ?side2 A2.out).mono ?_); (case side1 => repeat (first | exact HR0.out | (with_reducible refine Kd.C_alloc ?_ _) | (with_reducible refine Kd.C_drewN ?_ _) | (with_reducible refine Kd.C_drew ?_))); (case side2 => exact HC0.out); rintro e w' ⟨rfl, ⟨nd, rfl⟩⟩; refine ⟨_, rfl, ?_⟩) | ((with_reducible refine gate_callee (f := 39) rfl ?_); refine goesL_ (some 8) rfl rfl Try.func39 (by kernel_rfl) rfl #[.slice A0 l0.length c0] rfl (by (try simp only [List.map_toArray, List.map_cons, List.map_nil]); first | done | rfl | (simp only [List.length_drop, List.length_take]; rfl)) ?_; (with_reducible refine (spec_l9Groups.calls k _ _ l0 t205 _ ?side1 ?side2 A4.out).mono ?_); (case side1 => repeat (first | exact HR0.out | (with_reducible refine Kd.C_alloc ?_ _) | (with_reducible refine Kd.C_drewN ?_ _) | (with_reducible refine Kd.C_drew ?_))); (case side2 => exact HC0.out); rintro e w5 ⟨v206, rfl, ho0, hb⟩; refine ⟨_, rfl, ?_⟩; have n0_ := Aside0.mk (Kd.S_lower ho0 (below_size (by repeat (first | (with_reducible first | exact HB.out | apply below_alloc | apply pw_below_drewN | apply below_drew1) | exact HB.out)))); have n1_ := Aside0.mk (below_step (by repeat (first | (with_reducible first | exact HB.out | apply below_alloc | apply pw_below_drewN | apply below_drew1) | exact HB.out)) hb); clear HB; have HO207 := n0_; have HB := n1_; clear n0_ n1_; (try clear hb); (try clear hb2); (try clear hk); (try clear hi); (try clear ho0)))
    go_ret2
    exact ⟨_, by first | rfl | (simp [errW_none, errW_some] <;> rfl) | (simp [*, errW_none, errW_some] <;> rfl), by (with_reducible repeat (first | apply Kd.S_alloc | apply Kd.S_drewN | apply Kd.S_drew)); exact HO207.out, by repeat (first | (with_reducible first | exact HB.out | apply below_alloc | apply pw_below_drewN | apply below_drew1) | exact HB.out)⟩
  · replace c3 := Bool.eq_false_iff.mpr c3
    subst c3
    have H1 : (some (([] : List (List Int)), false)) = some (r1, r2) := by rw [if_neg (show ¬ (false = true) by decide)] at H; exact H
    clear H
    have H := H1
    clear H1
    simp only [Option.some.injEq, Prod.mk.injEq] at H
    obtain ⟨rfl, rfl⟩ := H
    go_enter Try.func21, Try.ntmps21
    go_wp2_with (first | ((with_reducible refine gate_callee (f := 38) rfl ?_); refine goesL_ (some 5) rfl rfl Try.func38 (by kernel_rfl) rfl #[.slice A0 l0.length c0] rfl (by (try simp only [List.map_toArray, List.map_cons, List.map_nil]); first | done | rfl | (simp only [List.length_drop, List.length_take]; rfl)) ?_; (with_reducible refine (spec_GoodLinks.calls k _ _ l0 false _ ?side1 ?side2 A2.out).mono ?_); (case side1 => repeat (first | exact HR0.out | (with_reducible refine Kd.C_alloc ?_ _) | (with_reducible refine Kd.C_drewN ?_ _) | (with_reducible refine Kd.C_drew ?_))); (case side2 => exact HC0.out); rintro e w' ⟨rfl, ⟨nd, rfl⟩⟩; refine ⟨_, rfl, ?_⟩))
    go_ret2
    exact ⟨_, by first | rfl | (simp [errW_none, errW_some] <;> rfl) | (simp [*, errW_none, errW_some] <;> rfl), by first | exact Kd.S_nil _ _ _ _ _ | exact Kd.N_nil _ _ _ _ _ | exact Kd.V_nil _ _ _ _ _ | exact Kd.Q_nil _ _ _ _ _ | exact Kd.R_nil _ _ _ _ _, by repeat (first | (with_reducible first | exact HB.out | apply below_alloc | apply pw_below_drewN | apply below_drew1) | exact HB.out)⟩

/-! ### slices_IndexFunc_int_int_75: function 75, by hand -/
set_option maxHeartbeats 2000000 in
/-- slices.IndexFunc at [][]int. -/
theorem IndexFunc_rows (g : Nat) (lb : Array Value) (eg : ∀ args w, (callFunc g args).run Try.prog w = .ok (.enter g args) w) (A : Option Addr) (c : Nat) (xs : List (List Int)) (p : List Int → Bool) (w : World)
    (hp : Pred1 (Kd.slice 3 (Kd.int .i64)) g lb xs p w) (hr : Kd.C (Kd.slice 3 (Kd.int .i64)) w A xs.length xs) :
    Calls Try.prog 75 #[.slice A xs.length c, .func (.func g) #[] lb] w fun e w' => e = .returned (.int .i64 (idxF p xs)) ∧ Below w.heap.size w w' := by
  have hm : xs.length ≤ 9223372036854775807 := hr.2.1
  have HR := Aside0.mk hr
  have HP := Aside0.mk hp
  clear hr hp
  go_enter Try.func75, Try.ntmps75
  go_wp2
  go_loopg [5, 8] xs.length (fun gg _ s8 wr => ∃ kk : Nat, kk ≤ xs.length ∧ xs.length - kk ≤ gg ∧ s8 = .int .i64 kk ∧ Aside0 (Below w.heap.size w wr) ∧ Aside0 (∀ j, j < kk → p (xs.getD j []) = false))
  case atStart => exact ⟨0, Nat.zero_le _, by omega, rfl, ⟨Below.refl _ w⟩, ⟨fun j hj => absurd hj (Nat.not_lt_zero _)⟩⟩
  case round =>
    obtain ⟨kk, hkk, hg, rfl, BW, AB⟩ := hrel
    by_cases hlt : kk < xs.length
    · have hltz : (kk : Int) < (xs.length : Int) := by omega
      obtain ⟨ad, cs, e0, _, hK, hcell⟩ := Kd.C_get HR.out [] (kk : Int) (by omega) hltz
      rw [Int.toNat_natCast] at hK hcell
      cases e0
      have hK2 := Kd.K_below _ BW.out hK
      obtain ⟨A1, c1, rfl, hl1, hC1⟩ := hK
      have hc1 : wr.cell? (ad.add kk) = some (.slice A1 (xs.getD kk []).length c1) := by
        have h1 := pw_cell_below BW.out (hcell 0 _ rfl)
        have hsz : (Kd.slice 3 (Kd.int .i64)).sz = 1 := rfl
        rwa [hsz, Nat.mul_one, Nat.add_zero] at h1
      have hcall := HP.out wr (xs.getD kk []) _ BW.out (mem_getD xs [] kk hlt) hK2
      clear hcell hC1 hK2 hl1
      generalize hy : xs.getD kk [] = y at hc1 hcall
      have HY := Aside0.mk hy
      clear hy
      generalize hq : p y = q at hcall
      have HQ := Aside0.mk hq
      clear hq
      cases q with
      | true =>
        go_wp2_with (go_at_fn g; refine hcall.mono ?_; rintro e w' ⟨rfl, hb'⟩)
        go_ret
        refine ⟨?_, below_then BW.out BW.out.size hb'⟩
        rw [idxF_hit p xs [] kk hlt (by rw [HY.out]; exact HQ.out) AB.out]
        rfl
      | false =>
        go_wp2_with (go_at_fn g; refine hcall.mono ?_; rintro e w' ⟨rfl, hb'⟩)
        go_roundg (xs.length - (kk + 1))
        case measure => omega
        case rel =>
          refine ⟨kk + 1, by omega, by omega, by go_num, ⟨below_then BW.out BW.out.size hb'⟩, ⟨fun j hj => ?_⟩⟩
          by_cases e : j = kk
          · subst e
            rw [HY.out]
            exact HQ.out
          · exact AB.out j (by omega)
    · have hltz : ¬ (kk : Int) < (xs.length : Int) := by omega
      have : kk = xs.length := by omega
      subst this
      go_wp2
      go_ret
      refine ⟨?_, BW.out⟩
      rw [idxF_miss p xs [] AB.out]
      rfl

end Go.Proofs.Yteokbemieooeaaa.PFnExactGroupsOf
