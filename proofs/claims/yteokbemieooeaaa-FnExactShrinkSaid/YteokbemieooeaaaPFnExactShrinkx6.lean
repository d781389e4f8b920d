-- Written for this claim by the session's own program (drive.py), over the kit's print, with contracts typed by hand.
import Derived.Test.YteokbemieooeaaaPFnExactShrinkx0
import Derived.Test.YteokbemieooeaaaPFnExactShrinkx2
import Derived.Test.YteokbemieooeaaaPFnExactShrinkx5
namespace Go.Proofs.Yteokbemieooeaaa.PFnExactShrink
open Go.RowKit Go.Proofs.YteokbemieooeaaaW.PrintWords Go.Proofs.YteokbemieooeaaaW.PrintLast Go.Proofs.YteokbemieooeaaaW.PrintMore
attribute [local go_sem] max2_int min2_int max_two min_two max_three min_three max_four min_four   -- for this text's walks alone
set_option linter.unusedVariables false
set_option linter.unusedSimpArgs false

/-! ### slices_Sort_int_int: function 109, by hand -/
def slices_Sort_int_int.f (l0 : List Int) : Option (List Int) := if l0.length < 4611686018427387904 then some (l0.mergeSort fun x y => decide (x ≤ y)) else none
/-- slices.Sort of a row of the call's own. -/
theorem slices_Sort_int_int.calls (P0_ : Nat → Prop) (u9000_ : Value) (l0 : List Int) (r : List Int) (w0 w : World) (hB : Below w0.heap.size w0 w) (ho0 : Kd.R (Kd.int .i64) 3 w w0.heap.size P0_ u9000_ l0) (h : slices_Sort_int_int.f l0 = some r) :
    Calls Try.prog 109 #[u9000_] w fun e w' => e = .returned (.tuple #[]) ∧ Kd.R (Kd.int .i64) 3 w' w0.heap.size (fun k_ => (P0_ k_ ∨ w.heap.size ≤ k_)) u9000_ r ∧ Below w0.heap.size w0 w' ∧ Kept w w' (fun k_ => P0_ k_) := by
  unfold slices_Sort_int_int.f at h
  by_cases hl : l0.length < 4611686018427387904
  · rw [if_pos hl] at h
    obtain rfl := Option.some.inj h
    have ho1 : Kd.R (Kd.int .i64) 3 w w0.heap.size (fun k_ => (P0_ k_ ∨ w.heap.size ≤ k_)) u9000_ l0 := Kd.R_mono ho0 (fun k_ hk => .inl hk)
    rcases Nat.eq_zero_or_pos l0.length with h0 | h0
    · obtain rfl : l0 = [] := List.eq_nil_of_length_eq_zero h0
      obtain ⟨A, c, rfl⟩ := Kd.R_slice ho1
      refine (Try.slices_Sort_int_none A c w).mono ?_
      rintro e w' ⟨rfl, rfl⟩
      exact ⟨rfl, by simpa using ho1, hB, Kept.refl _ _⟩
    · obtain ⟨g, c, rfl, hg, hlt, cells, hcells⟩ := Kd.R_form ho1 h0
      refine (Try.slices_Sort_int g 0 c l0 w (h_holds ho1) hlt hl).mono ?_
      rintro e w' ⟨rfl, n, os, rfl⟩
      obtain ⟨h1, h2, h3⟩ := h_put_all ho1 (List.length_mergeSort (le := fun x y => decide (x ≤ y)) l0) n os
      exact ⟨rfl, h1, h2 w0 hB hg, h3 _ (ho0.1 g rfl)⟩
  · rw [if_neg hl] at h
    cases h

/-! ### impl_reach: function 77 -/
mutual
def impl_reach.l0 : Nat → List (List Int) → List Int → Int → Option (List Int)
  | 0, _, _, _ => none
  | k + 1, x0, x5, x6 => if x6 < (x5.length : Int) then (if 0 ≤ x6 then (if 0 ≤ (rd x5 x6) then (if (rd x5 x6) < (x0.length : Int) then (impl_reach.l1 k x0 x5 x6 (rd_L1 x0 (rd x5 x6)) ((rd_L1 x0 (rd x5 x6)).length : Int) 0) else (none)) else (none)) else (none)) else ((slices_Sort_int_int.f x5).bind fun t239 => (some t239))
def impl_reach.l1 : Nat → List (List Int) → List Int → Int → List Int → Int → Int → Option (List Int)
  | 0, _, _, _, _, _, _ => none
  | k + 1, x0, x5, x6, x23, x24, x25 => if x25 < x24 then (if 0 ≤ x25 then (if x25 < (x23.length : Int) then ((slices_Contains_int_int.f k x5 (rd x23 x25)).bind fun t243 => (if t243 = true then (impl_reach.l1 k x0 x5 x6 x23 x24 (wrap64 (x25 + 1))) else (if x5.length < 17592186044416 then (impl_reach.l1 k x0 (x5 ++ [rd x23 x25]) x6 x23 x24 (wrap64 (x25 + 1))) else (none)))) else (none)) else (none)) else (impl_reach.l0 k x0 x5 (wrap64 (x6 + 1)))
end
def impl_reach.f (k : Nat) (l0 : List (List Int)) (a1 : Int) : Option (List Int) := impl_reach.l0 k l0 (([a1] : List Int)) 0
theorem impl_reach.mono_l : ∀ k, (∀ y0 y1 y2, LeO (impl_reach.l0 k y0 y1 y2) (impl_reach.l0 (k + 1) y0 y1 y2)) ∧ (∀ y0 y1 y2 y3 y4 y5, LeO (impl_reach.l1 k y0 y1 y2 y3 y4 y5) (impl_reach.l1 (k + 1) y0 y1 y2 y3 y4 y5))
  | 0 => ⟨fun _ _ _ r h => by simp [impl_reach.l0] at h, fun _ _ _ _ _ _ r h => by simp [impl_reach.l1] at h⟩
  | k + 1 => by
    obtain ⟨ih0, ih1⟩ := impl_reach.mono_l k
    refine ⟨?_, ?_⟩
    · intro y0 y1 y2
      unfold impl_reach.l0
      repeat' first
      | (with_reducible exact ih0 _ _ _)
      | (with_reducible exact ih1 _ _ _ _ _ _)
      | (with_reducible exact slices_Contains_int_int.mono _ _ _)
      | (with_reducible exact LeO.refl _)
      | (with_reducible exact LeO.none _)
      | (with_reducible refine LeO.ite ?_ ?_)
      | (with_reducible refine LeO.bind ?_ (fun _ => ?_))
      | exact ih0 _ _ _
      | exact ih1 _ _ _ _ _ _
      | exact slices_Contains_int_int.mono _ _ _
      | exact LeO.none _
      | refine LeO.ite ?_ ?_
      | refine LeO.bind ?_ (fun _ => ?_)
    · intro y0 y1 y2 y3 y4 y5
      unfold impl_reach.l1
      repeat' first
      | (with_reducible exact ih0 _ _ _)
      | (with_reducible exact ih1 _ _ _ _ _ _)
      | (with_reducible exact slices_Contains_int_int.mono _ _ _)
      | (with_reducible exact LeO.refl _)
      | (with_reducible exact LeO.none _)
      | (with_reducible refine LeO.ite ?_ ?_)
      | (with_reducible refine LeO.bind ?_ (fun _ => ?_))
      | exact ih0 _ _ _
      | exact ih1 _ _ _ _ _ _
      | exact slices_Contains_int_int.mono _ _ _
      | exact LeO.none _
      | refine LeO.ite ?_ ?_
      | refine LeO.bind ?_ (fun _ => ?_)
theorem impl_reach.mono : ∀ a0 a1 k, LeO (impl_reach.f k a0 a1) (impl_reach.f (k + 1) a0 a1) := by
  intro a0 a1 k
  obtain ⟨ih0, ih1⟩ := impl_reach.mono_l k
  unfold impl_reach.f
  repeat' first
      | (with_reducible exact ih0 _ _ _)
      | (with_reducible exact ih1 _ _ _ _ _ _)
      | (with_reducible exact slices_Contains_int_int.mono _ _ _)
      | (with_reducible exact LeO.refl _)
      | (with_reducible exact LeO.none _)
      | (with_reducible refine LeO.ite ?_ ?_)
      | (with_reducible refine LeO.bind ?_ (fun _ => ?_))
      | exact ih0 _ _ _
      | exact ih1 _ _ _ _ _ _
      | exact slices_Contains_int_int.mono _ _ _
      | exact LeO.none _
      | refine LeO.ite ?_ ?_
      | refine LeO.bind ?_ (fun _ => ?_)
set_option maxHeartbeats 8000000 in
set_option maxRecDepth 100000 in
theorem impl_reach.calls (k : Nat) (A0 : Option Addr) (c0 : Nat) (l0 : List (List Int)) (a1 : Int) (r : List Int) (w : World) (hr0 : Kd.C (Kd.slice 3 (Kd.int .i64)) w A0 l0.length l0) (hc0 : l0.length ≤ c0) (h : impl_reach.f k l0 a1 = some r) :
    Calls Try.prog 77 #[.slice A0 l0.length c0, .int .i64 a1] w fun e w' => ∃ v0_ : Value, e = .returned (v0_) ∧ Kd.R (Kd.int .i64) 3 w' w.heap.size (fun _ => True) v0_ r ∧ Below w.heap.size w w' := by
  have HR0 := Aside0.mk hr0
  have HC0 := Aside0.mk hc0
  clear hr0 hc0
  have HB := Aside0.mk (Below.refl w.heap.size w)
  have H : (impl_reach.l0 k l0 (([a1] : List Int)) 0) = some r := h
  clear h
  obtain ⟨y236, hy236⟩ : ∃ y_ : List Int, y_ = (([a1] : List Int)) := ⟨_, rfl⟩
  replace H : (impl_reach.l0 k l0 y236 0) = some r := by first | (rw [hy236]; with_reducible exact H) | (have H2_ := (Option.bind_some _ _).symm.trans H; rw [hy236]; with_reducible exact H2_) | (have H2_ := (Option.bind_some _ _).symm.trans H; with_reducible exact H2_) | with_reducible exact H | (rw [hy236]; exact H) | exact H
  have Ny236 := Aside0.mk hy236
  clear hy236
  have H' := Aside0.mk H
  clear H
  go_enter Try.func77, Try.ntmps77
  go_wp2_with (first | ((with_reducible refine gate_dst (N := 10) rfl ?_); refine Kd.R_lit (Kd.int .i64) _ 3 ?hg (N := 10) ?hd (xs := ([a1] : List Int)) (inner := [.int .i64 a1]) (ok := fun _ => True) (okp := fun _ => True) ?hr ?hp (fun _ hk => hk) trivial (Below.refl _ _) (Nat.le_refl _) (by simp) ?_; (case hd => rfl); (case hg => rfl); (case hr => first | (go_simp; done) | (go_simp; rfl)); (case hp => exact (Reps.one (show Kd.M (Kd.int .i64) _ _ _ a1 [.int .i64 a1] from rfl) (Reps.none _ _))); intro v237 w3 ho4 hb hg_ hnew_; clear hg_ hnew_; (first | rw [← Ny236.out] at ho4 | (simp only [Int.reduceToNat] at ho4; rw [← Ny236.out] at ho4)); have n0_ := Aside0.mk (Kd.R_lower ho4 (below_size (by repeat (first | (with_reducible first | exact HB.out | apply below_alloc | apply pw_below_drewN | apply below_drew1) | exact HB.out)))); have n1_ := Aside0.mk (below_step (by repeat (first | (with_reducible first | exact HB.out | apply below_alloc | apply pw_below_drewN | apply below_drew1) | exact HB.out)) hb); clear HB; have HO238 := n0_; have HB := n1_; clear n0_ n1_; clear hb ho4))
  go_loopg [5, 6] k (fun kq v5 v6 w' => ∃ (x5_1 : List Int) (x6_1 : Int), v6 = .int .i64 x6_1 ∧ Aside0 (impl_reach.l0 kq l0 x5_1 x6_1 = some r) ∧ Aside0 (kq ≤ k) ∧ Aside0 (Kd.R (Kd.int .i64) 3 w' w.heap.size (fun _ => True) v5 x5_1) ∧ Aside0 (Below w.heap.size w w'))
  case atStart => exact ⟨(y236), (0), (by first | rfl | (simp; done) | (simp [*]; done)), H', ⟨Nat.le_refl _⟩, ⟨by (with_reducible repeat (first | apply Kd.R_alloc | apply Kd.R_drewN | apply Kd.R_drew)); exact HO238.out⟩, ⟨by repeat (first | (with_reducible first | exact HB.out | apply below_alloc | apply pw_below_drewN | apply below_drew1) | exact HB.out)⟩⟩
  case round =>
    clear H'
    try clear p2
    obtain ⟨x5_1, x6_1, rfl, HA, HK1, HO_5, HB⟩ := hrel
    cases gk with
    | zero => exact absurd HA.out (by simp [impl_reach.l0])
    | succ k1 =>
      have H := HA.out
      clear HA
      simp only [impl_reach.l0] at H
      by_cases c5 : x6_1 < (x5_1.length : Int)
      · rw [if_pos c5] at H
        have c5b0 : decide (x6_1 < (x5_1.length : Int)) = true := decide_eq_true c5
        clear c5
        by_cases c6 : 0 ≤ x6_1
        · rw [if_pos c6] at H
          have c6b0 : decide (0 ≤ x6_1) = true := decide_eq_true c6
          clear c6
          by_cases c7 : 0 ≤ (rd x5_1 x6_1)
          · rw [if_pos c7] at H
            have c7b0 : decide (0 ≤ (rd x5_1 x6_1)) = true := decide_eq_true c7
            clear c7
            by_cases c8 : (rd x5_1 x6_1) < (l0.length : Int)
            · rw [if_pos c8] at H
              have c8b0 : decide ((rd x5_1 x6_1) < (l0.length : Int)) = true := decide_eq_true c8
              clear c8
              have H' := Aside0.mk H
              clear H
              obtain ⟨Ao9, co9, eo9⟩ := Kd.R_slice HO_5.out
              subst eo9
              have p240 : 0 ≤ (x6_1 : Int) := of_decide_eq_true (by first | (with_reducible assumption) | assumption)
              have q240 : x6_1 < (x5_1.length : Int) := of_decide_eq_true (by first | (with_reducible assumption) | assumption)
              obtain ⟨ad240, e240, hx240_0⟩ := Kd.at_int (Kd.R_reads' HO_5.out).2.2 x6_1 p240 q240
              cases e240
              replace p240 := eq_true p240
              replace q240 := eq_true q240
              have p241 : 0 ≤ ((rd x5_1 x6_1) : Int) := of_decide_eq_true (by first | (with_reducible assumption) | assumption)
              have q241 : (rd x5_1 x6_1) < (l0.length : Int) := of_decide_eq_true (by first | (with_reducible assumption) | assumption)
              obtain ⟨ad241, A241_0, c241_0, e241, hx241_0, hl241_0, hi241_0⟩ := at_L1 HR0.out (rd x5_1 x6_1) p241 q241
              cases e241
              try replace hx241_0 := (HB.out.cell (World.block_lt_of_cell? w _ hx241_0)).trans hx241_0
              have HR241_0 := Aside0.mk hi241_0
              have HC241_0 := Aside0.mk hl241_0
              clear hi241_0 hl241_0
              replace p241 := eq_true p241
              replace q241 := eq_true q241
              go_wp2
              go_loopg [5, 25] k1 (fun kq v5 v25 w' => ∃ (x5_2 : List Int) (x25_2 : Int), v25 = .int .i64 x25_2 ∧ Aside0 (impl_reach.l1 kq l0 x5_2 x6_1 (rd_L1 l0 (rd x5_1 x6_1)) ((rd_L1 l0 (rd x5_1 x6_1)).length : Int) x25_2 = some r) ∧ Aside0 (kq ≤ k1) ∧ Aside0 (Kd.R (Kd.int .i64) 3 w' w.heap.size (fun _ => True) v5 x5_2) ∧ Aside0 (Below w.heap.size w w'))
              case atStart => exact ⟨(x5_1), (0), (by first | rfl | (simp; done) | (simp [*]; done)), H', ⟨Nat.le_refl _⟩, ⟨by (with_reducible repeat (first | apply Kd.R_alloc | apply Kd.R_drewN | apply Kd.R_drew)); exact HO_5.out⟩, ⟨by repeat (first | (with_reducible first | exact HB.out | apply below_alloc | apply pw_below_drewN | apply below_drew1) | exact HB.out)⟩⟩
              case round =>
                clear H'
                try clear c2
                try clear p2
                try clear q2
                try clear hx2
                try clear c5
                try clear c5b0
                try clear c6
                try clear c6b0
                try clear c7
                try clear c7b0
                try clear c8
                try clear c8b0
                try clear hx240_0
                try clear hx241_0
                try clear p2
                try clear p240
                try clear p241
                try clear q240
                try clear q241
                obtain ⟨x5_2, x25_2, rfl, HA, HK2, HO_5, HB⟩ := hrel
                cases gk with
                | zero => exact absurd HA.out (by simp [impl_reach.l1])
                | succ k2 =>
                  have H := HA.out
                  clear HA
                  simp only [impl_reach.l1] at H
                  by_cases c10 : x25_2 < ((rd_L1 l0 (rd x5_1 x6_1)).length : Int)
                  · rw [if_pos c10] at H
                    have c10b0 : decide (x25_2 < ((rd_L1 l0 (rd x5_1 x6_1)).length : Int)) = true := decide_eq_true c10
                    clear c10
                    by_cases c11 : 0 ≤ x25_2
                    · rw [if_pos c11] at H
                      have c11b0 : decide (0 ≤ x25_2) = true := decide_eq_true c11
                      clear c11
                      by_cases c12 : x25_2 < ((rd_L1 l0 (rd x5_1 x6_1)).length : Int)
                      · rw [if_pos c12] at H
                        have c12b0 : decide (x25_2 < ((rd_L1 l0 (rd x5_1 x6_1)).length : Int)) = true := decide_eq_true c12
                        clear c12
                        replace H := Option.bind_eq_some_iff.mp H
                        obtain ⟨t243, A130, H⟩ := H
                        replace H : (if t243 = true then (impl_reach.l1 k2 l0 x5_2 x6_1 (rd_L1 l0 (rd x5_1 x6_1)) ((rd_L1 l0 (rd x5_1 x6_1)).length : Int) (wrap64 (x25_2 + 1))) else (if x5_2.length < 17592186044416 then (impl_reach.l1 k2 l0 (x5_2 ++ [rd (rd_L1 l0 (rd x5_1 x6_1)) x25_2]) x6_1 (rd_L1 l0 (rd x5_1 x6_1)) ((rd_L1 l0 (rd x5_1 x6_1)).length : Int) (wrap64 (x25_2 + 1))) else (none))) = some r := H
                        have A13 := Aside0.mk A130
                        clear A130
                        by_cases c14 : t243 = true
                        · subst c14
                          have H1 : (impl_reach.l1 k2 l0 x5_2 x6_1 (rd_L1 l0 (rd x5_1 x6_1)) ((rd_L1 l0 (rd x5_1 x6_1)).length : Int) (wrap64 (x25_2 + 1))) = some r := by rw [if_pos rfl] at H; exact H
                          clear H
                          have H := H1
                          clear H1
                          have H' := Aside0.mk H
                          clear H
                          have p242 : 0 ≤ (x25_2 : Int) := of_decide_eq_true (by first | (with_reducible assumption) | assumption)
                          have q242 : x25_2 < ((rd_L1 l0 (rd x5_1 x6_1)).length : Int) := of_decide_eq_true (by first | (with_reducible assumption) | assumption)
                          obtain ⟨ad242, e242, hx242_0⟩ := Kd.at_int HR241_0.out x25_2 p242 q242
                          cases e242
                          try replace hx242_0 := (HB.out.cell (World.block_lt_of_cell? w _ hx242_0)).trans hx242_0
                          replace p242 := eq_true p242
                          replace q242 := eq_true q242
                          obtain ⟨Ao15, co15, eo15⟩ := Kd.R_slice HO_5.out
                          subst eo15
                          go_wp2_with (first | ((with_reducible refine gate_callee (f := 83) rfl ?_); refine goesL_ (some 31) rfl rfl Try.func83 (by kernel_rfl) rfl #[.slice Ao15 x5_2.length co15, .int .i64 (rd (rd_L1 l0 (rd x5_1 x6_1)) x25_2)] rfl (by (try simp only [List.map_toArray, List.map_cons, List.map_nil]); first | done | rfl | (simp only [List.length_drop, List.length_take]; rfl)) ?_; (with_reducible refine (slices_Contains_int_int.calls k2 _ _ x5_2 (rd (rd_L1 l0 (rd x5_1 x6_1)) x25_2) true _ ?side1 ?side2 A13.out).mono ?_); (case side1 => repeat (first | exact (Kd.R_reads' HO_5.out).2.2 | (with_reducible refine Kd.C_alloc ?_ _) | (with_reducible refine Kd.C_drewN ?_ _) | (with_reducible refine Kd.C_drew ?_))); (case side2 => exact (Kd.R_reads' HO_5.out).2.1); rintro e w' ⟨rfl, ⟨nd, rfl⟩⟩; refine ⟨_, rfl, ?_⟩))
                          go_roundg k2
                          case measure => have := HK1.out; have := HK2.out; omega
                          case rel => exact ⟨(x5_2), (wrap64 (x25_2 + 1)), (by first | rfl | (simp; done) | (simp [*]; done)), H', ⟨by have := HK1.out; have := HK2.out; omega⟩, ⟨by (with_reducible repeat (first | apply Kd.R_alloc | apply Kd.R_drewN | apply Kd.R_drew)); exact HO_5.out⟩, ⟨by repeat (first | (with_reducible first | exact HB.out | apply below_alloc | apply pw_below_drewN | apply below_drew1) | exact HB.out)⟩⟩
                        · replace c14 := Bool.eq_false_iff.mpr c14
                          subst c14
                          have H1 : (if x5_2.length < 17592186044416 then (impl_reach.l1 k2 l0 (x5_2 ++ [rd (rd_L1 l0 (rd x5_1 x6_1)) x25_2]) x6_1 (rd_L1 l0 (rd x5_1 x6_1)) ((rd_L1 l0 (rd x5_1 x6_1)).length : Int) (wrap64 (x25_2 + 1))) else (none)) = some r := by rw [if_neg (show ¬ (false = true) by decide)] at H; exact H
                          clear H
                          have H := H1
                          clear H1
                          by_cases c16 : x5_2.length < 17592186044416
                          · rw [if_pos c16] at H
                            have LMc16 := Aside0.mk c16
                            clear c16
                            obtain ⟨y244, hy244⟩ : ∃ y_ : List Int, y_ = (x5_2 ++ [rd (rd_L1 l0 (rd x5_1 x6_1)) x25_2]) := ⟨_, rfl⟩
                            replace H : (impl_reach.l1 k2 l0 y244 x6_1 (rd_L1 l0 (rd x5_1 x6_1)) ((rd_L1 l0 (rd x5_1 x6_1)).length : Int) (wrap64 (x25_2 + 1))) = some r := by first | (rw [hy244]; with_reducible exact H) | (have H2_ := (Option.bind_some _ _).symm.trans H; rw [hy244]; with_reducible exact H2_) | (have H2_ := (Option.bind_some _ _).symm.trans H; with_reducible exact H2_) | with_reducible exact H | (rw [hy244]; exact H) | exact H
                            have Ny244 := Aside0.mk hy244
                            clear hy244
                            have H' := Aside0.mk H
                            clear H
                            have p242 : 0 ≤ (x25_2 : Int) := of_decide_eq_true (by first | (with_reducible assumption) | assumption)
                            have q242 : x25_2 < ((rd_L1 l0 (rd x5_1 x6_1)).length : Int) := of_decide_eq_true (by first | (with_reducible assumption) | assumption)
                            obtain ⟨ad242, e242, hx242_0⟩ := Kd.at_int HR241_0.out x25_2 p242 q242
                            cases e242
                            try replace hx242_0 := (HB.out.cell (World.block_lt_of_cell? w _ hx242_0)).trans hx242_0
                            replace p242 := eq_true p242
                            replace q242 := eq_true q242
                            obtain ⟨Ao17, co17, eo17⟩ := Kd.R_slice HO_5.out
                            subst eo17
                            go_wp2_with (first | ((with_reducible refine gate_callee (f := 83) rfl ?_); refine goesL_ (some 31) rfl rfl Try.func83 (by kernel_rfl) rfl #[.slice Ao17 x5_2.length co17, .int .i64 (rd (rd_L1 l0 (rd x5_1 x6_1)) x25_2)] rfl (by (try simp only [List.map_toArray, List.map_cons, List.map_nil]); first | done | rfl | (simp only [List.length_drop, List.length_take]; rfl)) ?_; (with_reducible refine (slices_Contains_int_int.calls k2 _ _ x5_2 (rd (rd_L1 l0 (rd x5_1 x6_1)) x25_2) false _ ?side1 ?side2 A13.out).mono ?_); (case side1 => repeat (first | exact (Kd.R_reads' HO_5.out).2.2 | (with_reducible refine Kd.C_alloc ?_ _) | (with_reducible refine Kd.C_drewN ?_ _) | (with_reducible refine Kd.C_drew ?_))); (case side2 => exact (Kd.R_reads' HO_5.out).2.1); rintro e w' ⟨rfl, ⟨nd, rfl⟩⟩; refine ⟨_, rfl, ?_⟩) | ((with_reducible refine gate_builtin (b := .append) (xs := #[.tmp 33, .tmp 35]) rfl ?_); at_builtin; refine Kd.R_append (Kd.int .i64) (w0 := w) w.heap.size rfl (.tmp 33) (.tmp 35) 24 3 (.int .i64 0) 8 rfl Try.underlying24 info3 rfl (by decide) (by omega) (.slice Ao17 x5_2.length co17) x5_2 (rd (rd_L1 l0 (rd x5_1 x6_1)) x25_2) [.int .i64 (rd (rd_L1 l0 (rd x5_1 x6_1)) x25_2)] (fun _ => True) (fun _ => False) rfl rfl ?aP (fun _ hk => hk.elim) ?aF ?aO ?aB ?aS ?aL ?_; (case aP => exact rfl); (case aB => exact (by repeat (first | (with_reducible first | exact HB.out | apply below_alloc | apply pw_below_drewN | apply below_drew1) | exact HB.out))); (case aF => exact (fun _ _ => trivial)); (case aO => exact (by (with_reducible repeat (first | apply Kd.R_alloc | apply Kd.R_drewN | apply Kd.R_drew)); exact HO_5.out)); (case aS => exact (below_size (by repeat (first | (with_reducible first | exact HB.out | apply below_alloc | apply pw_below_drewN | apply below_drew1) | exact HB.out)))); (case aL => have := LMc16.out; omega); intro v245 w18 ho hb hg hat; rw [← Ny244.out] at ho; have n0_ := Aside0.mk (hb); have n1_ := Aside0.mk (ho); clear HB; clear HO_5; have HB := n0_; have HO246 := n1_; clear n0_ n1_; clear ho hb hg hat))
                            go_roundg k2
                            case measure => have := HK1.out; have := HK2.out; omega
                            case rel => exact ⟨(y244), (wrap64 (x25_2 + 1)), (by first | rfl | (simp; done) | (simp [*]; done)), H', ⟨by have := HK1.out; have := HK2.out; omega⟩, ⟨by (with_reducible repeat (first | apply Kd.R_alloc | apply Kd.R_drewN | apply Kd.R_drew)); exact HO246.out⟩, ⟨by repeat (first | (with_reducible first | exact HB.out | apply below_alloc | apply pw_below_drewN | apply below_drew1) | exact HB.out)⟩⟩
                          · rw [if_neg c16] at H
                            exact absurd H (by simp)
                      · rw [if_neg c12] at H
                        exact absurd H (by simp)
                    · rw [if_neg c11] at H
                      exact absurd H (by simp)
                  · rw [if_neg c10] at H
                    have c10b0 : decide (x25_2 < ((rd_L1 l0 (rd x5_1 x6_1)).length : Int)) = false := decide_eq_false c10
                    clear c10
                    have H' := Aside0.mk H
                    clear H
                    go_wp2
                    go_roundg k2
                    case measure => have := HK1.out; have := HK2.out; omega
                    case rel => exact ⟨(x5_2), (wrap64 (x6_1 + 1)), (by first | rfl | (simp; done) | (simp [*]; done)), H', ⟨by have := HK1.out; have := HK2.out; omega⟩, ⟨by (with_reducible repeat (first | apply Kd.R_alloc | apply Kd.R_drewN | apply Kd.R_drew)); exact HO_5.out⟩, ⟨by repeat (first | (with_reducible first | exact HB.out | apply below_alloc | apply pw_below_drewN | apply below_drew1) | exact HB.out)⟩⟩
            · rw [if_neg c8] at H
              exact absurd H (by simp)
          · rw [if_neg c7] at H
            exact absurd H (by simp)
        · rw [if_neg c6] at H
          exact absurd H (by simp)
      · rw [if_neg c5] at H
        have c5b0 : decide (x6_1 < (x5_1.length : Int)) = false := decide_eq_false c5
        clear c5
        replace H := Option.bind_eq_some_iff.mp H
        obtain ⟨t239, A190, H⟩ := H
        replace H : (some t239) = some r := H
        have A19 := Aside0.mk A190
        clear A190
        obtain rfl := Option.some.inj H
        obtain ⟨Ao20, co20, eo20⟩ := Kd.R_slice HO_5.out
        subst eo20
        go_wp2_with (first | ((with_reducible refine gate_callee (f := 109) rfl ?_); refine goesL_ (some 39) rfl rfl Try.func109 (by kernel_rfl) rfl #[.slice Ao20 x5_1.length co20] rfl (by (try simp only [List.map_toArray, List.map_cons, List.map_nil]); first | done | rfl | (simp only [List.length_drop, List.length_take]; rfl)) ?_; (with_reducible refine (slices_Sort_int_int.calls (fun k_ => some k_ = (.slice Ao20 x5_1.length co20 : Value).ownBlock) (.slice Ao20 x5_1.length co20) x5_1 t239 w _ ?side1 ?side2 A19.out).mono ?_); (case side1 => repeat (first | (with_reducible first | exact HB.out | apply below_alloc | apply pw_below_drewN | apply below_drew1) | exact HB.out)); (case side2 => exact Kd.R_tight rfl HO_5.out); rintro e w21 ⟨rfl, hy0, hb, hkp⟩; refine ⟨_, rfl, ?_⟩; have n0_ := Aside0.mk (Kd.R_reok rfl hy0 (fun k_ e_ => HO_5.out.1 k_ e_)); have n1_ := Aside0.mk (hb); clear HO_5; clear HB; have HO_5 := n0_; have HB := n1_; clear n0_ n1_; (try clear hb); (try clear hkp); (try clear hy0)))
        go_ret
        exact ⟨_, by first | rfl | (simp [errW_none, errW_some] <;> rfl) | (simp [*, errW_none, errW_some] <;> rfl), by (with_reducible repeat (first | apply Kd.R_alloc | apply Kd.R_drewN | apply Kd.R_drew)); exact HO_5.out, by repeat (first | (with_reducible first | exact HB.out | apply below_alloc | apply pw_below_drewN | apply below_drew1) | exact HB.out)⟩

/-! ### slices_IndexFunc_int_int_79: function 79, by hand -/
set_option maxHeartbeats 2000000 in
/-- slices.IndexFunc at []int. -/
theorem IndexFunc_int (g : Nat) (lb : Array Value) (eg : ∀ args w, (callFunc g args).run Try.prog w = .ok (.enter g args) w) (A : Option Addr) (c : Nat) (xs : List Int) (p : Int → Bool) (w : World)
    (hp : Pred1 (Kd.int .i64) g lb xs p w) (hr : Kd.C (Kd.int .i64) w A xs.length xs) :
    Calls Try.prog 79 #[.slice A xs.length c, .func (.func g) #[] lb] w fun e w' => e = .returned (.int .i64 (idxF p xs)) ∧ Below w.heap.size w w' := by
  have hm : xs.length ≤ 9223372036854775807 := hr.2.1
  have HR := Aside0.mk hr
  have HP := Aside0.mk hp
  clear hr hp
  go_enter Try.func79, Try.ntmps79
  go_wp2
  go_loopg [5, 8] xs.length (fun gg _ s8 wr => ∃ kk : Nat, kk ≤ xs.length ∧ xs.length - kk ≤ gg ∧ s8 = .int .i64 kk ∧ Aside0 (Below w.heap.size w wr) ∧ Aside0 (∀ j, j < kk → p (xs.getD j 0) = false))
  case atStart => exact ⟨0, Nat.zero_le _, by omega, rfl, ⟨Below.refl _ w⟩, ⟨fun j hj => absurd hj (Nat.not_lt_zero _)⟩⟩
  case round =>
    obtain ⟨kk, hkk, hg, rfl, BW, AB⟩ := hrel
    by_cases hlt : kk < xs.length
    · have hltz : (kk : Int) < (xs.length : Int) := by omega
      obtain ⟨ad, e0, hc0⟩ := Kd.at_int HR.out (kk : Int) (by omega) hltz
      cases e0
      have hc1 : wr.cell? (ad.add kk) = some (.int .i64 (xs.getD kk 0)) := by
        have := pw_cell_below BW.out hc0
        simpa [rd] using this
      clear hc0
      have hcall := HP.out wr (xs.getD kk 0) (.int .i64 (xs.getD kk 0)) BW.out (mem_getD xs 0 kk hlt) rfl
      generalize hy : xs.getD kk 0 = y at hc1 hcall
      have B := Aside0.mk hy
      clear hy
      cases hq : p y with
      | true =>
        rw [hq] at hcall
        have HQ := Aside0.mk hq
        clear hq
        go_wp2_with (go_at_fn g; refine hcall.mono ?_; rintro e w' ⟨rfl, hb'⟩)
        go_ret
        refine ⟨?_, below_then BW.out BW.out.size hb'⟩
        rw [idxF_hit p xs 0 kk hlt (by rw [B.out]; exact HQ.out) AB.out]
        rfl
      | false =>
        rw [hq] at hcall
        have HQ := Aside0.mk hq
        clear hq
        go_wp2_with (go_at_fn g; refine hcall.mono ?_; rintro e w' ⟨rfl, hb'⟩)
        go_roundg (xs.length - (kk + 1))
        case measure => omega
        case rel =>
          refine ⟨kk + 1, by omega, by omega, by go_num, ⟨below_then BW.out BW.out.size hb'⟩, ⟨fun j hj => ?_⟩⟩
          by_cases e : j = kk
          · subst e
            rw [B.out]
            exact HQ.out
          · exact AB.out j (by omega)
    · have hltz : ¬ (kk : Int) < (xs.length : Int) := by omega
      have : kk = xs.length := by omega
      subst this
      go_wp2
      go_ret
      refine ⟨?_, BW.out⟩
      rw [idxF_miss p xs 0 AB.out]
      rfl

/-! ### slices_DeleteFunc_int_int: function 80, by hand -/
theorem h_filter_none (p : Int → Bool) (xs : List Int) (h : ∀ j, j < xs.length → p (xs.getD j 0) = false) : xs.filter (fun x => !p x) = xs := by
  rw [List.filter_eq_self]
  intro x hx
  obtain ⟨j, hj, rfl⟩ := List.mem_iff_getElem.1 hx
  have := h j hj
  simpa [List.getD, List.getElem?_eq_getElem hj] using this
theorem idxF_spec (p : Int → Bool) (xs : List Int) : (idxF p xs = -1 ∧ ∀ j, j < xs.length → p (xs.getD j 0) = false) ∨ ∃ k, k < xs.length ∧ idxF p xs = (k : Int) ∧ p (xs.getD k 0) = true ∧ ∀ j, j < k → p (xs.getD j 0) = false := by
  unfold idxF
  cases h : xs.findIdx? p with
  | none =>
    left
    rw [List.findIdx?_eq_none_iff] at h
    refine ⟨rfl, fun j hj => h _ ?_⟩
    rw [show xs.getD j 0 = xs[j] from by simp [List.getD, List.getElem?_eq_getElem hj]]
    exact List.getElem_mem hj
  | some i =>
    right
    rw [List.findIdx?_eq_some_iff_getElem] at h
    obtain ⟨hi, hp, hn⟩ := h
    refine ⟨i, hi, rfl, by simpa [List.getD, List.getElem?_eq_getElem hi] using hp, fun j hj => ?_⟩
    have := hn j hj
    simpa [List.getD, List.getElem?_eq_getElem (show j < xs.length by omega)] using this
/-- What the row holds after some rounds: what is kept of the first j, up to i; from j on as it was. -/
structure DelInv (p : Int → Bool) (xs : List Int) (i j : Nat) (cur : List Int) : Prop where
  lt : i < j
  le : j ≤ xs.length
  len : cur.length = xs.length
  low : cur.take i = (xs.take j).filter fun x => !p x
  high : cur.drop j = xs.drop j
theorem DelInv.start {p : Int → Bool} {xs : List Int} {k : Nat} (hk : k < xs.length) (hp : p (xs.getD k 0) = true) (hn : ∀ j, j < k → p (xs.getD j 0) = false) : DelInv p xs k (k + 1) xs := by
  refine ⟨by omega, by omega, rfl, ?_, rfl⟩
  rw [List.take_succ_eq_append_getElem hk, List.filter_append]
  have h1 : (xs.take k).filter (fun x => !p x) = xs.take k := by
    refine h_filter_none p _ fun j hj => ?_
    have hj' : j < k := by simp at hj; omega
    have := hn j hj'
    rw [show (xs.take k).getD j 0 = xs.getD j 0 from by simp [List.getD, List.getElem?_take, hj']]
    exact this
  have h2 : p xs[k] = true := by simpa [List.getD, List.getElem?_eq_getElem hk] using hp
  rw [h1]
  simp [h2]
theorem DelInv.at_ {p : Int → Bool} {xs cur : List Int} {i j : Nat} (h : DelInv p xs i j cur) (hj : j < xs.length) : cur.getD j 0 = xs.getD j 0 := by
  have h1 := congrArg (fun l : List Int => l.head?) h.high
  simp only [List.head?_drop] at h1
  simp only [List.getD]
  rw [h1]
theorem DelInv.keep {p : Int → Bool} {xs cur : List Int} {i j : Nat} (h : DelInv p xs i j cur) (hj : j < xs.length) (hp : p (xs.getD j 0) = false) : DelInv p xs (i + 1) (j + 1) (cur.set i (xs.getD j 0)) := by
  have hi := h.lt
  have hlen := h.len
  refine ⟨by omega, by omega, by simpa using h.len, ?_, ?_⟩
  · rw [List.take_succ_eq_append_getElem (by rw [List.length_set]; omega), List.take_set_of_le (Nat.le_refl i), h.low, List.take_succ_eq_append_getElem hj, List.filter_append]
    have h2 : p xs[j] = false := by simpa [List.getD, List.getElem?_eq_getElem hj] using hp
    simp [h2, List.getD, List.getElem?_eq_getElem hj]
  · rw [List.drop_set_of_lt (by omega)]
    have := congrArg (List.drop 1) h.high
    rwa [List.drop_drop, List.drop_drop] at this
theorem DelInv.skip {p : Int → Bool} {xs cur : List Int} {i j : Nat} (h : DelInv p xs i j cur) (hj : j < xs.length) (hp : p (xs.getD j 0) = true) : DelInv p xs i (j + 1) cur := by
  have hi := h.lt
  refine ⟨by omega, by omega, h.len, ?_, ?_⟩
  · rw [h.low, List.take_succ_eq_append_getElem hj, List.filter_append]
    have h2 : p xs[j] = true := by simpa [List.getD, List.getElem?_eq_getElem hj] using hp
    simp [h2]
  · have := congrArg (List.drop 1) h.high
    rwa [List.drop_drop, List.drop_drop] at this
/-- A predicate that answers whatever is done to the blocks in S; it may lay blocks of its own. -/
def PredS (g : Nat) (lb : Array Value) (xs : List Int) (p : Int → Bool) (w : World) (S : Nat → Prop) : Prop :=
  ∀ (W : World) (x : Int), Kept w W S → x ∈ xs → Calls Try.prog g (#[.int .i64 x] ++ lb) W fun e w' => e = .returned (.bool (p x)) ∧ Below W.heap.size W w'
set_option maxHeartbeats 4000000 in
set_option maxRecDepth 100000 in
/-- slices.DeleteFunc of a row of the call's own. -/
theorem DeleteFunc_int (g : Nat) (lb : Array Value) (eg : ∀ args w, (callFunc g args).run Try.prog w = .ok (.enter g args) w) (P0_ : Nat → Prop) (v : Value) (xs : List Int) (p : Int → Bool) (w0 w : World) (hB : Below w0.heap.size w0 w)
    (ho : Kd.R (Kd.int .i64) 3 w w0.heap.size P0_ v xs) (hp : PredS g lb xs p w P0_) :
    Calls Try.prog 80 #[v, .func (.func g) #[] lb] w fun e w' => ∃ v0_ : Value, e = .returned v0_ ∧ Kd.R (Kd.int .i64) 3 w' w0.heap.size (fun k_ => P0_ k_ ∨ w.heap.size ≤ k_) v0_ (xs.filter fun x => !p x) ∧ Below w0.heap.size w0 w' ∧ Kept w w' P0_ := by
  have ho1 : Kd.R (Kd.int .i64) 3 w w0.heap.size (fun k_ => (P0_ k_ ∨ w.heap.size ≤ k_)) v xs := Kd.R_mono ho (fun k_ hk => .inl hk)
  obtain ⟨A, c, rfl, hlc, hC⟩ := Kd.R_reads ho1
  have hIF := Lib.hid (IndexFunc_int g lb eg A c xs p w (fun W x v hb hx hK => by
    obtain rfl : v = .int .i64 x := by
      have : [v] = [Value.int .i64 x] := hK
      simpa using this
    exact hp W x (Kept.of_below hb _) hx) hC)
  have hm : xs.length ≤ 9223372036854775807 := hC.2.1
  rcases idxF_spec p xs with ⟨e1, hall⟩ | ⟨k0, hk0, e1, ht, hall⟩
  · rw [e1] at hIF
    rw [h_filter_none p xs hall]
    have HO := Aside0.mk ho1
    have HB := Aside0.mk hB
    clear ho ho1 hp hall hC hB e1
    go_enter Try.func80, Try.ntmps80
    go_wp2_with (go_at_call 79; refine hIF.out.mono ?_; rintro e w' ⟨rfl, hb⟩)
    go_ret
    exact ⟨_, rfl, Kd.R_below HO.out hb, below_step HB.out hb, Kept.of_below hb _⟩
  · rw [e1] at hIF
    have HP := Aside0.mk hp
    have HX := Aside0.mk hall
    have HT := Aside0.mk ht
    obtain ⟨gb, cb, eo, hg0, hgl, cells, hcells⟩ := Kd.R_form ho1 (by omega)
    injection eo with eA _ ec
    subst eA
    have HG0 := Aside0.mk hg0
    have HO := Aside0.mk ho1
    have HB := Aside0.mk hB
    have HS := Aside0.mk (show P0_ gb ∨ w.heap.size ≤ gb from .inl (ho.1 gb rfl))
    have hne1 : ((k0 : Int) == -1) = false := beq_eq_false_iff_ne.2 (by omega)
    clear ho ho1 hp hall hC hB e1 ht hg0 hgl hcells ec
    go_enter Try.func80, Try.ntmps80
    go_wp2_with (go_at_call 79; refine hIF.out.mono ?_; rintro e w' ⟨rfl, hb⟩)
    rename_i w1
    have HB1 := Aside0.mk hb
    clear hb
    go_loopg [5, 6, 7] xs.length (fun gg s5 s6 _ wr => ∃ (i j : Nat) (cur : List Int), s5 = .int .i64 i ∧ s6 = .int .i64 j ∧ xs.length - j ≤ gg ∧ Aside0 (DelInv p xs i j cur) ∧ Aside0 (Kd.R (Kd.int .i64) 3 wr w0.heap.size (fun k_ => (P0_ k_ ∨ w.heap.size ≤ k_)) (.slice (some ⟨gb, 0, none⟩) xs.length c) cur) ∧ Aside0 (Below w0.heap.size w0 wr) ∧ Aside0 (Kept w wr P0_))
    case atStart => exact ⟨k0, k0 + 1, xs, rfl, by go_num, by omega, ⟨DelInv.start hk0 HT.out HX.out⟩, ⟨Kd.R_below HO.out HB1.out⟩, ⟨below_step HB.out HB1.out⟩, ⟨Kept.of_below HB1.out _⟩⟩
    case round =>
      clear HO HB
      obtain ⟨i, j, cur, rfl, rfl, hgg, HI, HO, HB, HK⟩ := hrel
      have hij := HI.out.lt
      have hjl := HI.out.le
      have hcl := HI.out.len
      by_cases hlt : j < xs.length
      · have hltz : (j : Int) < (xs.length : Int) := by omega
        have cj : wr.cell? ⟨gb, j, none⟩ = some (.int .i64 (xs.getD j 0)) := by
          have h1 := (Kd.R_celln 0 HO.out (j : Int) (by omega) (by omega)).1
          rw [Int.toNat_natCast] at h1
          rw [h1, ← HI.out.at_ hlt]
          simp [rdOf]
        have hcall := HP.out wr (xs.getD j 0) HK.out (mem_getD xs 0 j hlt)
        generalize hy : xs.getD j 0 = y at cj hcall
        have HY := Aside0.mk hy
        clear hy
        have hit : (i : Int) < (xs.length : Int) := by omega
        cases hq : p y with
        | true =>
          rw [hq] at hcall
          have HQ := Aside0.mk hq
          clear hq
          go_wp2_with (go_at_fn g; refine hcall.mono ?_; rintro e w2 ⟨rfl, hb2⟩)
          go_roundg (xs.length - (j + 1))
          case measure => omega
          case rel => exact ⟨i, j + 1, cur, rfl, by go_num, by omega, ⟨HI.out.skip hlt (by rw [HY.out]; exact HQ.out)⟩, ⟨Kd.R_below HO.out hb2⟩, ⟨below_step HB.out hb2⟩, ⟨Kept.below HK.out hb2⟩⟩
        | false =>
          rw [hq] at hcall
          have HQ := Aside0.mk hq
          clear hq
          go_wp2_with (go_at_fn g; refine hcall.mono ?_; rintro e w2 ⟨rfl, hb2⟩; have HO2 := Aside0.mk (Kd.R_below HO.out hb2); have HB2 := Aside0.mk hb2; obtain ⟨ci, fi⟩ := Kd.R_celln 0 HO2.out (i : Int) (by omega) hit; rw [Int.toNat_natCast] at ci fi; clear hb2)
          go_roundg (xs.length - (j + 1))
          case measure => omega
          case rel =>
            refine ⟨i + 1, j + 1, cur.set i y, by go_num, by go_num, by omega, ⟨by have := HI.out.keep hlt (by rw [HY.out]; exact HQ.out); rwa [HY.out] at this⟩, ⟨?_⟩, ⟨(below_step HB.out HB2.out).setCell (p := ⟨gb, i, none⟩) HG0.out _⟩, ⟨(Kept.below HK.out HB2.out).setCell (p := ⟨gb, i, none⟩) HS.out _⟩⟩
            have := Kd.R_putn HO2.out (i : Int) y
            rwa [Int.toNat_natCast] at this
      · obtain rfl : j = xs.length := by omega
        have hltz : ¬ (xs.length : Int) < (xs.length : Int) := by omega
        have hlow := HI.out.low
        rw [List.take_length] at hlow
        have hil : i < xs.length := hij
        have hic : i ≤ c := by omega
        have hicz : (i : Int) ≤ (xs.length : Int) := by omega
        have hcl2 : ∀ ty, (Builtin.clear_ #[24] ty #[.slice (some ⟨gb, i, none⟩) (xs.length - i) (c - i)]).run Try.prog wr = .ok (.tuple #[]) (wr.setCells gb i (List.replicate (xs.length - i) (.int .i64 0))) :=
          fun ty => Lib.run_clear_slice wr _ _ ty _ Try.underlying24 Try.zeroValue3 rfl rfl gb i _ _ (by omega) (fun t ht => by
            have h1 := (Kd.R_celln 0 HO.out ((i + t : Nat) : Int) (by omega) (by omega)).1
            rw [Int.toNat_natCast] at h1
            rw [h1]
            rfl) (fun t ht => by
            have h1 := (Kd.R_celln 0 HO.out ((i + t : Nat) : Int) (by omega) (by omega)).2
            rw [Int.toNat_natCast] at h1
            exact h1)
        have HLOW := Aside0.mk hlow
        clear hlow
        go_wp2
        go_ret
        have hR := h_R_sets (List.replicate (xs.length - i) (0 : Int)) i wr cur HO.out (by simp; omega)
        rw [List.map_replicate] at hR
        have hT := Kd.R_take hR (m := i) (by simp; omega)
        have e3 : (cur.take i ++ List.replicate (xs.length - i) (0 : Int) ++ cur.drop (i + (List.replicate (xs.length - i) (0 : Int)).length)).take i = xs.filter fun x => !p x := by
          rw [List.append_assoc, List.take_append_of_le_length (by simp; omega), List.take_take, Nat.min_self, HLOW.out]
        rw [e3] at hT
        have hlen3 : (xs.filter fun x => !p x).length = i := by rw [← HLOW.out, List.length_take]; omega
        exact ⟨_, rfl, hT, h_below_sets HB.out HG0.out _ _, h_kept_sets HK.out HS.out _ _⟩

/-! ### impl_group_1: function 108, by hand -/
theorem h_index_l (l : List Int) (v : Int) (hl : l.length ≤ 9223372036854775807) : ∀ (d i : Nat), i + d = l.length → ∃ r : Int, slices_Index_int_int.l0 (d + 1) l v (l.length : Int) (i : Int) = some r ∧ decide (r ≥ 0) = (l.drop i).contains v
  | 0, i, h => by
    refine ⟨-1, by rw [slices_Index_int_int.l0, if_neg (by omega)], ?_⟩
    rw [List.drop_of_length_le (by omega)]
    rfl
  | d + 1, i, h => by
    have hd : l.drop i = l.getD i 0 :: l.drop (i + 1) := by
      rw [List.drop_eq_getElem_cons (show i < l.length by omega)]
      simp [List.getD, List.getElem?_eq_getElem (show i < l.length by omega)]
    have h1 : wrap64 ((i : Int) + 1) = ((i + 1 : Nat) : Int) := by rw [h_w64 (by omega) (by omega)]; omega
    by_cases e : v = l.getD i 0
    · refine ⟨i, by rw [slices_Index_int_int.l0, if_pos (by omega), if_pos (by omega), if_pos (by omega), h_rd, if_pos e], ?_⟩
      rw [hd, List.contains_cons, ← e]
      simp
    · obtain ⟨r, hr, hc⟩ := h_index_l l v hl d (i + 1) (by omega)
      refine ⟨r, by rw [slices_Index_int_int.l0, if_pos (by omega), if_pos (by omega), if_pos (by omega), h_rd, if_neg e, h1]; exact hr, ?_⟩
      rw [hd, List.contains_cons, hc]
      have : (v == l.getD i 0) = false := by simpa using e
      rw [this, Bool.false_or]
theorem h_contains (l : List Int) (v : Int) (hl : l.length ≤ 9223372036854775807) : slices_Contains_int_int.f (l.length + 1) l v = some (l.contains v) := by
  obtain ⟨r, hr, hc⟩ := h_index_l l v hl l.length 0 (by omega)
  unfold slices_Contains_int_int.f slices_Index_int_int.f
  rw [show slices_Index_int_int.l0 (l.length + 1) l v (l.length : Int) 0 = some r from hr, Option.bind_some, hc]
  rfl
/-- slices.Contains at []int, wherever the slice is read. -/
theorem h_contains_calls (A : Option Addr) (c : Nat) (l : List Int) (v : Int) (w : World) (hr : Kd.C (Kd.int .i64) w A l.length l) (hc : l.length ≤ c) :
    Calls Try.prog 83 #[.slice A l.length c, .int .i64 v] w fun e w' => e = .returned (.bool (l.contains v)) ∧ Drawn0 w w' :=
  slices_Contains_int_int.calls (l.length + 1) A c l v _ w hr hc (h_contains l v hr.2.1)
/-- A filter by what may have no answer. -/
def filtO (q : Int → Option Bool) (xs : List Int) : Option (List Int) := if xs.all (fun x => (q x).isSome) = true then some (xs.filter fun x => (q x).getD false) else none
theorem filtO_mono {q q' : Int → Option Bool} (h : ∀ x, LeO (q x) (q' x)) (xs : List Int) : LeO (filtO q xs) (filtO q' xs) := by
  intro r hr
  unfold filtO at hr ⊢
  by_cases ha : xs.all (fun x => (q x).isSome) = true
  · rw [if_pos ha] at hr
    have h1 : ∀ x ∈ xs, (q' x).isSome = true ∧ (q' x).getD false = (q x).getD false := fun x hx => by
      have := List.all_eq_true.1 ha x hx
      obtain ⟨b, hb⟩ := Option.isSome_iff_exists.1 this
      rw [h x b hb, hb]
      exact ⟨rfl, rfl⟩
    rw [if_pos (List.all_eq_true.2 fun x hx => (h1 x hx).1), ← hr]
    congr 1
    exact List.filter_congr fun x hx => (h1 x hx).2
  · rw [if_neg ha] at hr
    cases hr
theorem filtO_some {q : Int → Option Bool} {xs r : List Int} (h : filtO q xs = some r) : (∀ x ∈ xs, q x = some ((q x).getD false)) ∧ r = xs.filter fun x => (q x).getD false := by
  unfold filtO at h
  by_cases ha : xs.all (fun x => (q x).isSome) = true
  · rw [if_pos ha] at h
    refine ⟨fun x hx => ?_, (Option.some.inj h).symm⟩
    obtain ⟨b, hb⟩ := Option.isSome_iff_exists.1 (List.all_eq_true.1 ha x hx)
    rw [hb]
    rfl
  · rw [if_neg ha] at h
    cases h
set_option maxHeartbeats 1000000 in
theorem h_group1 (k : Nat) (B1 B2 : Nat) (A : Option Addr) (c : Nat) (l : List (List Int)) (node : Int) (w : World) (S : Nat → Prop) (hB1 : ¬ S B1) (hB2 : ¬ S B2) (hcell1 : w.cell? ⟨B1, 0, none⟩ = some (.slice A l.length c)) (hcell2 : w.cell? ⟨B2, 0, none⟩ = some (.int .i64 node))
    (hr : ∀ W, Kept w W S → Kd.C (Kd.slice 3 (Kd.int .i64)) W A l.length l) (hc : l.length ≤ c) (xs : List Int) (p : Int → Bool) (hp : ∀ x ∈ xs, ∃ rs, impl_reach.f k l x = some rs ∧ p x = !rs.contains node) :
    PredS 108 #[.pointer (some ⟨B1, 0, none⟩), .pointer (some ⟨B2, 0, none⟩)] xs p w S := by
  intro W x hk hx
  obtain ⟨rs, hrs, hpx⟩ := hp x hx
  rw [hpx]
  have hc1 : W.cell? ⟨B1, 0, none⟩ = some (.slice A l.length c) := cell_kept hcell1 hk hB1
  have hc2 : W.cell? ⟨B2, 0, none⟩ = some (.int .i64 node) := cell_kept hcell2 hk hB2
  have hl1 : B1 < W.heap.size := World.block_lt_of_cell? W ⟨B1, 0, none⟩ hc1
  have hl2 : B2 < W.heap.size := World.block_lt_of_cell? W ⟨B2, 0, none⟩ hc2
  have HR := Lib.hid (show ∀ W', Below W.heap.size W W' → Calls Try.prog 77 #[.slice A l.length c, .int .i64 x] W' _ from fun W' hb => impl_reach.calls k A c l x rs W' (Kd.C_below (hr W hk) hb) hc hrs)
  clear hcell1 hcell2 hk hr hB1 hB2 hp hpx hrs
  show Calls Try.prog 108 #[.int .i64 x, .pointer (some ⟨B1, 0, none⟩), .pointer (some ⟨B2, 0, none⟩)] W _
  go_enter Try.func108, Try.ntmps108
  go_wp2
  go_region_held3 (fun w' => Below W.heap.size W w' ∧ w'.cell? ⟨B1, 0, none⟩ = some (.slice A l.length c) ∧ w'.cell? ⟨B2, 0, none⟩ = some (.int .i64 node)) (first | assumption | exact ⟨below_drew (Below.refl _ _), hc1, hc2⟩)
    (first | (go_at_call 77; have hS := ‹Below W.heap.size W _ ∧ _ ∧ _›; refine (HR.out _ hS.1).mono ?_; rintro e w1 ⟨v0, rfl, hR, hb⟩; obtain ⟨A1, cc, rfl, hlc, hC⟩ := Kd.R_reads hR; have hS2 := And.intro (below_step hS.1 hb) (And.intro (pw_cell_below hb hS.2.1) (pw_cell_below hb hS.2.2)); clear hS hR hb) | (go_at_call 83; have hS := ‹Below W.heap.size W _ ∧ _ ∧ _›; refine (h_contains_calls _ _ rs node _ (by assumption) (by assumption)).mono ?_; rintro e w1 ⟨rfl, hd⟩; have hb := hd.below; have hS2 := And.intro (below_step hS.1 hb) (And.intro (pw_cell_below hb hS.2.1) (pw_cell_below hb hS.2.2)); clear hS hb hd))
  have hS := ‹Below W.heap.size W _ ∧ _ ∧ _›
  go_wp2
  go_ret
  exact ⟨by first | rfl | simp, hS.1⟩

/-! ### impl_group: function 74, by hand -/
def impl_group.f (k : Nat) (l0 : List (List Int)) (a1 : Int) : Option (List Int) := (impl_reach.f k l0 a1).bind fun rs => filtO (fun x => (impl_reach.f k l0 x).map fun qs => qs.contains a1) rs
theorem impl_group.mono : ∀ a0 a1 k, LeO (impl_group.f k a0 a1) (impl_group.f (k + 1) a0 a1) := by
  intro a0 a1 k r hr
  unfold impl_group.f at hr ⊢
  obtain ⟨rs, h1, h2⟩ := Option.bind_eq_some_iff.1 hr
  rw [impl_reach.mono _ _ k rs h1, Option.bind_some]
  exact filtO_mono (fun x => LeO.map _ (impl_reach.mono _ _ k)) rs r h2
set_option maxHeartbeats 8000000 in
set_option maxRecDepth 100000 in
theorem impl_group.calls (k : Nat) (A0 : Option Addr) (c0 : Nat) (l0 : List (List Int)) (a1 : Int) (r : List Int) (w : World) (hr0 : Kd.C (Kd.slice 3 (Kd.int .i64)) w A0 l0.length l0) (hc0 : l0.length ≤ c0) (h : impl_group.f k l0 a1 = some r) :
    Calls Try.prog 74 #[.slice A0 l0.length c0, .int .i64 a1] w fun e w' => ∃ v0_ : Value, e = .returned (v0_) ∧ Kd.R (Kd.int .i64) 3 w' w.heap.size (fun _ => True) v0_ r ∧ Below w.heap.size w w' := by
  obtain ⟨rs, hrs, hfl⟩ := Option.bind_eq_some_iff.1 h
  obtain ⟨hall, rfl⟩ := filtO_some hfl
  have eg : ∀ args w, (callFunc 108 args).run Try.prog w = .ok (.enter 108 args) w := enters_ Try.func108 (by kernel_rfl) rfl
  have hp : ∀ x ∈ rs, ∃ qs, impl_reach.f k l0 x = some qs ∧ (!((impl_reach.f k l0 x).map fun qs => qs.contains a1).getD false) = !qs.contains a1 := fun x hx => by
    have h1 := hall x hx
    obtain ⟨qs, h2, h3⟩ := Option.map_eq_some_iff.1 h1
    exact ⟨qs, h2, by rw [h2]; rfl⟩
  have hb0 : Below w.heap.size w ((w.alloc (.cells #[.slice A0 l0.length c0] 22)).alloc (.cells #[.int .i64 a1] 3)) := below_alloc (below_alloc (Below.refl _ _) _) _
  have HC := Lib.hid (impl_reach.calls k A0 c0 l0 a1 rs ((w.alloc (.cells #[.slice A0 l0.length c0] 22)).alloc (.cells #[.int .i64 a1] 3)) (Kd.C_below hr0 hb0) hc0 hrs)
  have HD := Lib.hid (show ∀ (v : Value) (w1 : World), Kd.R (Kd.int .i64) 3 w1 (w.heap.size + 2) (fun _ => True) v rs → Below (w.heap.size + 2) ((w.alloc (.cells #[.slice A0 l0.length c0] 22)).alloc (.cells #[.int .i64 a1] 3)) w1 → Calls Try.prog 80 #[v, .func (.func 108) #[] #[.pointer (some ⟨w.heap.size, 0, none⟩), .pointer (some ⟨w.heap.size + 1, 0, none⟩)]] w1 fun e w' => ∃ v0_ : Value, e = .returned v0_ ∧ Kd.R (Kd.int .i64) 3 w' w.heap.size (fun _ => True) v0_ (rs.filter fun x => ((impl_reach.f k l0 x).map fun qs => qs.contains a1).getD false) ∧ Below w.heap.size w w' from fun v w1 hR hb => by
    have hsz : ((w.alloc (.cells #[.slice A0 l0.length c0] 22)).alloc (.cells #[.int .i64 a1] 3)).heap.size = w.heap.size + 2 := by simp
    have hb2 : Below ((w.alloc (.cells #[.slice A0 l0.length c0] 22)).alloc (.cells #[.int .i64 a1] 3)).heap.size ((w.alloc (.cells #[.slice A0 l0.length c0] 22)).alloc (.cells #[.int .i64 a1] 3)) w1 := by rw [hsz]; exact hb
    have hb1 : Below w.heap.size w w1 := below_step hb0 hb2
    have hbase : ∀ k, (some k = v.ownBlock) → w.heap.size + 2 ≤ k := fun k hk => Kd.R_base hR k hk.symm
    have hP := h_group1 k w.heap.size (w.heap.size + 1) A0 c0 l0 a1 w1 (fun k => some k = v.ownBlock) (fun hk => by have := hbase _ hk; omega) (fun hk => by have := hbase _ hk; omega)
      (pw_cell_below hb2 (a := ⟨w.heap.size, 0, none⟩) (v := .slice A0 l0.length c0) (by simp)) (pw_cell_below hb2 (a := ⟨w.heap.size + 1, 0, none⟩) (v := .int .i64 a1) (by simp))
      (Kd.C_kept_came (Kd.heap_slice 3 (Kd.heap_int .i64)) hr0 hb1 (fun k hk => by have := hbase k hk; omega)) hc0 rs _ hp
    refine (DeleteFunc_int 108 _ eg (fun k => some k = v.ownBlock) v rs _ w w1 hb1 (Kd.R_lower (Kd.R_tight rfl hR) (by omega)) hP).mono ?_
    rintro e w' ⟨v0, rfl, hR', hB', _⟩
    exact ⟨v0, rfl, by simpa using Kd.R_mono (ok' := fun _ => True) hR' (fun _ _ => trivial), hB'⟩)
  clear hr0 hb0 h hfl hall hp hrs
  generalize (rs.filter fun x => ((impl_reach.f k l0 x).map fun qs => qs.contains a1).getD false) = q at HD ⊢
  go_enter Try.func74, Try.ntmps74
  go_wp2_with (first | (go_at_call 77; refine HC.out.mono ?_; rintro e w1 ⟨v, rfl, hR, hb⟩; have HR := Aside0.mk hR; have HB := Aside0.mk hb; clear hR hb) | (go_at_call 80; refine (HD.out _ _ (by simpa using HR.out) (by simpa using HB.out)).mono ?_; rintro e w' ⟨v0, rfl, hR, hb⟩))
  exact bodyPost_ret (v := v0) (by simp [results, go_sem]) rfl ⟨v0, rfl, hR, hb⟩

/-! ### slices_ContainsFunc_int_int_46: function 46, by hand -/
/-- slices.ContainsFunc at []int. -/
theorem ContainsFunc_int (g : Nat) (lb : Array Value) (eg : ∀ args w, (callFunc g args).run Try.prog w = .ok (.enter g args) w) (A : Option Addr) (c : Nat) (xs : List Int) (p : Int → Bool) (w : World)
    (hp : Pred1 (Kd.int .i64) g lb xs p w) (hr : Kd.C (Kd.int .i64) w A xs.length xs) :
    Calls Try.prog 46 #[.slice A xs.length c, .func (.func g) #[] lb] w fun e w' => e = .returned (.bool (xs.any p)) ∧ Below w.heap.size w w' := by
  have H := IndexFunc_int g lb eg A c xs p w hp hr
  rw [← idxF_any p xs]
  clear hp hr
  generalize idxF p xs = q at H ⊢
  go_enter Try.func46, Try.ntmps46
  go_wp2_with (go_at_call 79; refine H.mono ?_; rintro e w' ⟨rfl, hb⟩)
  go_ret
  exact ⟨by first | rfl | simp, hb⟩

/-! ### impl_hasAll_1: function 88, by hand -/
theorem h_hasAll1 (B : Nat) (A : Option Addr) (c : Nat) (l : List Int) (w : World) (hB : B < w.heap.size) (hcell : w.cell? ⟨B, 0, none⟩ = some (.slice A l.length c)) (hr : Kd.C (Kd.int .i64) w A l.length l) (hc : l.length ≤ c) (xs : List Int) :
    Pred1 (Kd.int .i64) 88 #[.pointer (some ⟨B, 0, none⟩)] xs (fun n => !l.contains n) w := by
  intro W x v hb _ hK
  obtain rfl : v = .int .i64 x := by
    have : [v] = [Value.int .i64 x] := hK
    simpa using this
  have hc0 : W.cell? ⟨B, 0, none⟩ = some (.slice A l.length c) := (hb.cell (p := ⟨B, 0, none⟩) hB).trans hcell
  have HC := Lib.hid (h_contains_calls A c l x W (Kd.C_below hr hb) hc)
  clear hcell hb hr
  show Calls Try.prog 88 #[.int .i64 x, .pointer (some ⟨B, 0, none⟩)] W _
  go_enter Try.func88, Try.ntmps88
  go_wp2_with (go_at_call 83; refine HC.out.mono ?_; rintro e w' ⟨rfl, hd⟩)
  go_ret
  exact ⟨by first | rfl | simp, hd.below⟩

/-! ### impl_hasAll: function 55, by hand -/
def impl_hasAll.f (l0 : List Int) (l1 : List Int) : Option (Bool) := some (l1.all fun n => l0.contains n)
set_option maxHeartbeats 8000000 in
set_option maxRecDepth 100000 in
theorem impl_hasAll.calls (A0 : Option Addr) (c0 : Nat) (l0 : List Int) (A1 : Option Addr) (c1 : Nat) (l1 : List Int) (r : Bool) (w : World) (hr0 : Kd.C (Kd.int .i64) w A0 l0.length l0) (hc0 : l0.length ≤ c0) (hr1 : Kd.C (Kd.int .i64) w A1 l1.length l1) (hc1 : l1.length ≤ c1) (h : impl_hasAll.f l0 l1 = some r) :
    Calls Try.prog 55 #[.slice A0 l0.length c0, .slice A1 l1.length c1] w fun e w' => e = .returned (.bool r) ∧ Below w.heap.size w w' := by
  obtain rfl := Option.some.inj h
  have e0 : (l1.all fun n => l0.contains n) = !(l1.any fun n => !l0.contains n) := by
    rw [List.all_eq_not_any_not]
  rw [e0]
  have eg : ∀ args w, (callFunc 88 args).run Try.prog w = .ok (.enter 88 args) w := enters_ Try.func88 (by kernel_rfl) rfl
  have hb0 : Below w.heap.size w (w.alloc (.cells #[.slice A0 l0.length c0] 24)) := below_alloc (Below.refl _ _) _
  have HC := Lib.hid (ContainsFunc_int _ _ eg A1 c1 l1 _ _ (h_hasAll1 w.heap.size A0 c0 l0 (w.alloc (.cells #[.slice A0 l0.length c0] 24)) (by simp) (by simp) (Kd.C_below hr0 hb0) hc0 l1) (Kd.C_below hr1 hb0))
  have HB := Lib.hid hb0
  clear hr0 hr1 hb0 e0 h
  generalize (l1.any fun n => !l0.contains n) = q at HC ⊢
  go_enter Try.func55, Try.ntmps55
  go_wp2_with (go_at_call 46; refine HC.out.mono ?_; rintro e w' ⟨rfl, hb⟩)
  go_ret
  exact ⟨by first | rfl | simp, below_then HB.out HB.out.size hb⟩

/-! ### impl_groups_1: function 76, by hand -/
/-- A literal of two rows that are read. -/
theorem h_two (A0 : Option Addr) (c0 : Nat) (l0 : List Int) (A1 : Option Addr) (c1 : Nat) (l1 : List Int) (w : World) (hr0 : Kd.C (Kd.int .i64) w A0 l0.length l0) (hc0 : l0.length ≤ c0) (hr1 : Kd.C (Kd.int .i64) w A1 l1.length l1) (hc1 : l1.length ≤ c1) :
    Kd.C (Kd.slice 3 (Kd.int .i64)) (w.alloc (.cells #[.slice A0 l0.length c0, .slice A1 l1.length c1] 24)) (some ⟨w.heap.size, 0, none⟩) ([l0, l1] : List (List Int)).length [l0, l1] := by
  have hb0 : Below w.heap.size w (w.alloc (.cells #[.slice A0 l0.length c0, .slice A1 l1.length c1] 24)) := below_alloc (Below.refl _ _) _
  refine ⟨rfl, by simp, fun _ => ⟨_, rfl, fun j p hp => ?_⟩⟩
  match j, hp with
  | 0, hp =>
    obtain rfl : l0 = p := by simpa using hp
    refine ⟨[.slice A0 l0.length c0], rfl, ⟨A0, c0, rfl, hc0, Kd.C_below hr0 hb0⟩, fun i u hu => ?_⟩
    match i, hu with
    | 0, hu =>
      obtain rfl : Value.slice A0 l0.length c0 = u := by simpa using hu
      simp [Addr.add]
    | i + 1, hu => simp at hu
  | 1, hp =>
    obtain rfl : l1 = p := by simpa using hp
    refine ⟨[.slice A1 l1.length c1], rfl, ⟨A1, c1, rfl, hc1, Kd.C_below hr1 hb0⟩, fun i u hu => ?_⟩
    match i, hu with
    | 0, hu =>
      obtain rfl : Value.slice A1 l1.length c1 = u := by simpa using hu
      simp [Addr.add, show (Kd.slice 3 (Kd.int .i64)).sz = 1 from rfl]
    | i + 1, hu => simp at hu
  | j + 2, hp => simp at hp
set_option maxHeartbeats 4000000 in
set_option maxRecDepth 100000 in
theorem h_groups1 (k : Nat) (B1 B2 : Nat) (A : Option Addr) (c : Nat) (l : List (List Int)) (A2 : Option Addr) (c2 : Nat) (told : List Int) (w : World) (hB1 : B1 < w.heap.size) (hB2 : B2 < w.heap.size) (hcell1 : w.cell? ⟨B1, 0, none⟩ = some (.slice A2 told.length c2)) (hcell2 : w.cell? ⟨B2, 0, none⟩ = some (.slice A l.length c))
    (hr : Kd.C (Kd.slice 3 (Kd.int .i64)) w A l.length l) (hc : l.length ≤ c) (hr2 : Kd.C (Kd.int .i64) w A2 told.length told) (hc2 : told.length ≤ c2) (xs : List (List Int)) (p : List Int → Bool) (hp : ∀ x ∈ xs, ∃ cc rs, slices_Concat_int_int.f k [told, x] = some cc ∧ 0 < x.length ∧ impl_reach.f k l (x.getD 0 0) = some rs ∧ p x = rs.all fun n => cc.contains n) :
    Pred1 (Kd.slice 3 (Kd.int .i64)) 76 #[.pointer (some ⟨B1, 0, none⟩), .pointer (some ⟨B2, 0, none⟩)] xs p w := by
  intro W x v hb hx hK
  obtain ⟨cc, rs, h1, h2, h3, hpx⟩ := hp x hx
  rw [hpx]
  obtain ⟨A1, c1, e1, hl1, hC1⟩ := hK
  obtain rfl : v = .slice A1 x.length c1 := by simpa using e1
  have hc1 : W.cell? ⟨B1, 0, none⟩ = some (.slice A2 told.length c2) := (hb.cell (p := ⟨B1, 0, none⟩) hB1).trans hcell1
  have hc3 : W.cell? ⟨B2, 0, none⟩ = some (.slice A l.length c) := (hb.cell (p := ⟨B2, 0, none⟩) hB2).trans hcell2
  obtain ⟨ad, e0, hx0⟩ := Kd.at_int hC1 (0 : Int) (by omega) (by omega)
  cases e0
  have hadd : ad.add (0 : Int).toNat = ad := by simp [Addr.add]
  rw [hadd] at hx0
  have hz : (0 : Int) < (x.length : Int) := by omega
  have e3 : rd x 0 = x.getD 0 0 := by simp [rd]
  rw [e3] at hx0
  have HRD := Lib.hid (show ∀ W', Below W.heap.size W W' → Calls Try.prog 77 #[.slice A l.length c, .int .i64 (x.getD 0 0)] W' _ from fun W' hb' => impl_reach.calls k A c l (x.getD 0 0) rs W' (Kd.C_below (Kd.C_below hr hb) hb') hc h3)
  have HCC := Lib.hid (slices_Concat_int_int.calls k (some ⟨W.heap.size, 0, none⟩) 2 [told, x] cc (W.alloc (.cells #[.slice A2 told.length c2, .slice (some ad) x.length c1] 24)).drew (Kd.C_drew (h_two A2 c2 told (some ad) c1 x W (Kd.C_below hr2 hb) hc2 hC1 hl1)) (Nat.le_refl _) h1)
  have HA := Lib.hid (show ∀ W' A3 c3 A4 c4, Kd.C (Kd.int .i64) W' A3 cc.length cc → cc.length ≤ c3 → Kd.C (Kd.int .i64) W' A4 rs.length rs → rs.length ≤ c4 → Calls Try.prog 55 #[.slice A3 cc.length c3, .slice A4 rs.length c4] W' fun e w' => e = .returned (.bool (rs.all fun n => cc.contains n)) ∧ Below W'.heap.size W' w' from fun W' A3 c3 A4 c4 hC3 hl3 hC4 hl4 => impl_hasAll.calls A3 c3 cc A4 c4 rs _ W' hC3 hl3 hC4 hl4 rfl)
  have hS0 : Below W.heap.size W W.drew ∧ W.drew.cell? ⟨B1, 0, none⟩ = some (.slice A2 told.length c2) ∧ W.drew.cell? ⟨B2, 0, none⟩ = some (.slice A l.length c) ∧ W.drew.cell? ad = some (.int .i64 (x.getD 0 0)) := ⟨below_drew (Below.refl _ _), hc1, hc3, hx0⟩
  have hS1 : ∀ o, Below W.heap.size W (W.alloc o).drew ∧ (W.alloc o).drew.cell? ⟨B1, 0, none⟩ = some (.slice A2 told.length c2) ∧ (W.alloc o).drew.cell? ⟨B2, 0, none⟩ = some (.slice A l.length c) ∧ (W.alloc o).drew.cell? ad = some (.int .i64 (x.getD 0 0)) := fun o => ⟨below_drew (below_alloc (Below.refl _ _) o), (World.cell?_alloc_lt _ _ _ (World.block_lt_of_cell? _ _ hc1)).trans hc1, (World.cell?_alloc_lt _ _ _ (World.block_lt_of_cell? _ _ hc3)).trans hc3, (World.cell?_alloc_lt _ _ _ (World.block_lt_of_cell? _ _ hx0)).trans hx0⟩
  clear hcell1 hcell2 hb hr hr2 hB1 hB2 hp hpx h1 h3 hC1 e1 hl1 e3 hadd
  have hz2 := eq_true hz
  have hz3 := eq_true h2
  generalize (rs.all fun n => cc.contains n) = q at HA ⊢
  generalize x.getD 0 0 = x0 at *
  show Calls Try.prog 76 #[.slice (some ad) x.length c1, .pointer (some ⟨B1, 0, none⟩), .pointer (some ⟨B2, 0, none⟩)] W _
  go_enter Try.func76, Try.ntmps76
  go_wp2
  go_region_held3 (fun w' => Below W.heap.size W w' ∧ w'.cell? ⟨B1, 0, none⟩ = some (.slice A2 told.length c2) ∧ w'.cell? ⟨B2, 0, none⟩ = some (.slice A l.length c) ∧ w'.cell? ad = some (.int .i64 x0)) (first | assumption | exact hS0 | exact hS1 _)
    (first | (go_at_call 41; have hS := hS1 (.cells #[.slice A2 told.length c2, .slice (some ad) x.length c1] 24); refine HCC.out.mono ?_; rintro e w1 ⟨v0, rfl, hR, hb⟩; obtain ⟨A3, cc3, rfl, hlc, hC⟩ := Kd.R_reads hR; have hS2 := And.intro (below_step hS.1 hb) (And.intro (pw_cell_below hb hS.2.1) (And.intro (pw_cell_below hb hS.2.2.1) (pw_cell_below hb hS.2.2.2))); have HC3 := Aside0.mk hC; have HL3 := Aside0.mk hlc; clear hS hR hb hC hlc) | (go_at_call 77; have hS := ‹Below W.heap.size W _ ∧ _ ∧ _›; refine (HRD.out _ hS.1).mono ?_; rintro e w1 ⟨v0, rfl, hR, hb⟩; obtain ⟨A4, cc4, rfl, hlc, hC⟩ := Kd.R_reads hR; have hS2 := And.intro (below_step hS.1 hb) (And.intro (pw_cell_below hb hS.2.1) (And.intro (pw_cell_below hb hS.2.2.1) (pw_cell_below hb hS.2.2.2))); have HC3' := Aside0.mk (Kd.C_below HC3.out hb); have HC4 := Aside0.mk hC; have HL4 := Aside0.mk hlc; clear hS hR hb hC hlc HC3) | (go_at_call 55; have hS := ‹Below W.heap.size W _ ∧ _ ∧ _›; refine (HA.out _ _ _ _ _ HC3'.out HL3.out HC4.out HL4.out).mono ?_; rintro e w1 ⟨rfl, hb⟩; have hS2 := And.intro (below_step hS.1 hb) (And.intro (pw_cell_below hb hS.2.1) (And.intro (pw_cell_below hb hS.2.2.1) (pw_cell_below hb hS.2.2.2))); clear hS hb))
  have hS := ‹Below W.heap.size W _ ∧ _ ∧ _›
  go_wp2
  go_ret
  exact ⟨by first | rfl | simp, hS.1⟩

/-! ### slices_Delete_int_int: function 78, by hand -/
/-- A store behind a row's elements says nothing of them. -/
theorem h_R_spare {α : Type} {d : Kd α} {e base n c g j : Nat} {ok : Nat → Prop} {W : World} {xs : List α} (h : d.R e W base ok (.slice (some ⟨g, 0, none⟩) n c) xs) (hj : n * d.sz ≤ j) (u : Value) : d.R e (W.setCell ⟨g, j, none⟩ u) base ok (.slice (some ⟨g, 0, none⟩) n c) xs := by
  have hn := (h_R_len h).1
  obtain ⟨h0, inner, ho, hr⟩ := h
  rcases ho.2 with ⟨hv, _⟩ | ⟨g', cap', cur, hv, hb, hh, hlc, hcm, hcs, htk⟩
  · cases hv
  injection hv with ha _ hc
  injection ha with ha
  injection ha with hg
  subst hg hc
  refine ⟨h0, inner, ⟨ho.1, .inr ⟨g, c, cur.setIfInBounds j u, by rw [← hn], hb, blk_set hh j u, hlc, hcm, by simpa using hcs, ?_⟩⟩, hr.imp_ fun _ _ hp => Kd.M_step hp fun k hk _ => Below.heap_setCell W _ u k fun e_ => hk.2 (by simp [Value.ownBlock, e_])⟩
  rw [Array.toList_setIfInBounds, List.take_set_of_le (by rw [← hn]; exact hj)]
  exact htk
theorem h_R_cells {α : Type} {d : Kd α} {e base n c g : Nat} {ok : Nat → Prop} {W : World} {xs : List α} (h : d.R e W base ok (.slice (some ⟨g, 0, none⟩) n c) xs) : ∃ cur : Array Value, W.heap[g]? = some (.cells cur e (0, 0)) ∧ cur.size = c * d.sz := by
  obtain ⟨h0, inner, ho, hr⟩ := h
  rcases ho.2 with ⟨hv, _⟩ | ⟨g', cap', cur, hv, hb, hh, hlc, hcm, hcs, htk⟩
  · cases hv
  injection hv with ha _ hc
  injection ha with ha
  injection ha with hg
  subst hg hc
  exact ⟨cur, hh, hcs⟩
set_option maxHeartbeats 4000000 in
set_option maxRecDepth 100000 in
/-- slices.Delete of one element, whatever is said of the elements. -/
theorem Delete_rows {α : Type} (d : Kd α) (hsz : d.sz = 1) (g n c k : Nat) (ok : Nat → Prop) (xs : List α) (w0 w : World) (hB : Below w0.heap.size w0 w) (ho : d.R 24 w w0.heap.size ok (.slice (some ⟨g, 0, none⟩) n c) xs) (hk : k < n) (hm : n ≤ 1000000) :
    Calls Try.prog 78 #[.slice (some ⟨g, 0, none⟩) n c, .int .i64 k, .int .i64 ((k : Int) + 1)] w fun e w' => e = .returned (.slice (some ⟨g, 0, none⟩) (n - 1) c) ∧ d.R 24 w' w0.heap.size ok (.slice (some ⟨g, 0, none⟩) (n - 1) c) (xs.eraseIdx k) ∧ Below w0.heap.size w0 w' ∧ Kept w w' (fun k_ => k_ = g) := by
  have hnc := (h_R_len ho).2
  have h0 : (0 : Int) ≤ (k : Int) := by omega
  have h1 : (k : Int) ≤ (k : Int) + 1 := by omega
  have h2 : (k : Int) + 1 ≤ (n : Int) := by omega
  have h3 : (n : Int) ≤ (c : Int) := by omega
  have h4 : ((k : Int) == (k : Int) + 1) = false := beq_eq_false_iff_ne.2 (by omega)
  obtain ⟨i0, hi0, hz0, hs0, hb0⟩ := info_parts info24
  have hcA : ∀ W : World, (Instr.slice 22 (.slice (some ⟨g, 0, none⟩) n c) none (some (.int .i64 (k : Int))) none).run Try.prog W = .ok (.slice (some ⟨g, 0, none⟩) k c) W := cut_to 22 24 .i64 Try.underlying22 hi0 (some ⟨g, 0, none⟩) n c (k : Int) (by omega) (by omega) (by omega)
  have hcB : ∀ W : World, (Instr.slice 22 (.slice (some ⟨g, 0, none⟩) n c) (some (.int .i64 ((k : Int) + 1))) none none).run Try.prog W = .ok (.slice (if c = k + 1 then some ⟨g, 0, none⟩ else some ⟨g, k + 1, none⟩) (n - (k + 1)) (c - (k + 1))) W := by
    intro W
    have h_ := cut_from (P := Try.prog) 22 24 .i64 Try.underlying22 hi0 1 hs0 (some ⟨g, 0, none⟩) n c ((k : Int) + 1) (by omega) (by omega) W
    rw [show ((k : Int) + 1).toNat = k + 1 by omega] at h_
    simpa [Addr.add] using h_
  have hcC : ∀ W : World, (Instr.slice 22 (.slice (some ⟨g, 0, none⟩) (n - 1) c) (some (.int .i64 ((n - 1 : Nat) : Int))) (some (.int .i64 (n : Int))) none).run Try.prog W = .ok (.slice (some ⟨g, n - 1, none⟩) 1 (c - (n - 1))) W := by
    intro W
    have hel : Try.prog.elem 22 = 24 := by simp [Program.elem, Try.underlying22]
    rw [run_slice_lh W 22 (some ⟨g, 0, none⟩) (n - 1) c (by rw [hel]; exact Try.underlying22) .i64 .i64 ((n - 1 : Nat) : Int) (n : Int) (by omega) (by omega) (by omega), hel]
    simp [sizeOf, typeInfo, hi0, hs0, sliced, Result.andThen]
    refine ⟨?_, by omega⟩
    rw [if_neg (by omega)]
    simp [Addr.add]
    try omega
  have HO := Aside0.mk ho
  have HB := Aside0.mk hB
  have HG := Aside0.mk (Kd.R_base ho g (by simp [Value.ownBlock]))
  clear ho hB
  go_enter Try.func78, Try.ntmps78
  go_wp2
  go_region_held3 (fun _ => True) (trivial) ((refine Kd.R_delete_step d (w0 := w0) w0.heap.size (by rfl) (.tmp 22) (.tmp 25) 22 24 (by rfl) Try.underlying22 (by rw [hsz]; kernel_rfl) (g := g) (n := n) (c := c) (k := k) (m := n - (k + 1)) (c2 := c - (k + 1)) (A := if c = k + 1 then some ⟨g, 0, none⟩ else some ⟨g, k + 1, none⟩) (xs := xs) (ok := ok) (by rfl) (by rfl) (by rw [hsz]; simp [Addr.add]) (by rfl) (Kd.R_drew HO.out) hk (below_drew HB.out) HB.out.size ?_; intro w1 hr hb hg))
  have HR := Aside0.mk hr
  obtain ⟨cur, hcur, hcs⟩ := h_R_cells hr
  rw [hsz, Nat.mul_one] at hcs
  have hcl : ∀ ty, (Builtin.clear_ #[22] ty #[.slice (some ⟨g, n - 1, none⟩) 1 (c - (n - 1))]).run Try.prog w1 = .ok (.tuple #[]) (w1.setCell ⟨g, n - 1, none⟩ (.slice none 0 0)) := fun ty => by
    have h_ := Lib.run_clear_slice w1 22 24 ty (.slice none 0 0) Try.underlying22 Try.zeroValue24 rfl rfl g (n - 1) 1 (c - (n - 1)) (by omega) (fun j hj => by
      obtain rfl : j = 0 := by omega
      rw [blk_cell hcur, Array.getElem?_eq_getElem (show n - 1 + 0 < cur.size by omega)]
      rfl) (fun j hj => blk_frozen hcur _)
    exact h_
  have HK := Aside0.mk (show Kept w w1 (fun k_ => k_ = g) from ⟨hg.size, fun i hi hn => hg.block i hi (fun e_ => hn (by injection e_))⟩)
  have HB2 := Aside0.mk hb
  clear hr hg hb hcur hcs hcA hcB
  go_wp2
  all_goals go_ret
  all_goals first | (exact ⟨rfl, h_R_spare (j := n - 1) HR.out (by rw [hsz]; omega) _, HB2.out.setCell (p := ⟨g, n - 1, none⟩) HG.out _, HK.out.setCell (p := ⟨g, n - 1, none⟩) (.inl rfl) _⟩) | (obtain rfl : c = k + 1 := (by assumption); exact ⟨rfl, h_R_spare (j := n - 1) HR.out (by rw [hsz]; omega) _, HB2.out.setCell (p := ⟨g, n - 1, none⟩) HG.out _, HK.out.setCell (p := ⟨g, n - 1, none⟩) (.inl rfl) _⟩)

end Go.Proofs.Yteokbemieooeaaa.PFnExactShrink
