-- Written for this claim by the session's own program (drive.py), over the kit's print, with contracts typed by hand.
import Derived.Test.YtjefmihaiaimlaaPFnExactFinishCommitx0
import Derived.Test.YtjefmihaiaimlaaPFnExactFinishCommitx1
namespace Go.Proofs.Ytjefmihaiaimlaa.PFnExactFinishCommit
open Go.RowKit Go.Proofs.YtjefmihaiaimlaaW.PrintWords Go.Proofs.YtjefmihaiaimlaaW.PrintLast Go.Proofs.YtjefmihaiaimlaaW.PrintMore
attribute [local go_sem] max2_int min2_int max_two min_two max_three min_three max_four min_four   -- for this text's walks alone
set_option linter.unusedVariables false
set_option linter.unusedSimpArgs false

/-! ### spec_GoodCommit: function 22 -/
mutual
def spec_GoodCommit.j0 : Nat → Bool → List Int → List Int → Int → Option (Bool)
  | 0, _, _, _, _ => none
  | k + 1, x26, x106000, x106001, x106002 => if x26 = true then (some false) else (spec_GoodCommit.l0 k x106000 (x106000.length : Int) 0 x106000 x106001 x106002)
def spec_GoodCommit.l0 : Nat → List Int → Int → Int → List Int → List Int → Int → Option (Bool)
  | 0, _, _, _, _, _, _ => none
  | k + 1, x28, x29, x30, x106000, x106001, x106002 => if x30 < x29 then (if 0 ≤ x30 then (if x30 < (x28.length : Int) then (if x30 < (x106001.length : Int) then ((spec_l1Has.f k x106001 2).bind fun t110 => ((spec_l1In.f (rd x28 x30) 0 3).bind fun t111 => (if t111 = true then ((spec_l1In.f (rd x106001 x30) 0 2).bind fun t112 => (if t112 = true then (if (rd x106001 x30) = 1 then (if (rd x28 x30) = 0 then (spec_GoodCommit.j2 k (rd x28 x30) (rd x106001 x30) t110 x28 x29 x30 true x106000 x106001 x106002) else (if (rd x106001 x30) = 2 then (spec_GoodCommit.j2 k (rd x28 x30) (rd x106001 x30) t110 x28 x29 x30 ((rd x28 x30) != 3) x106000 x106001 x106002) else (spec_GoodCommit.j2 k (rd x28 x30) (rd x106001 x30) t110 x28 x29 x30 false x106000 x106001 x106002))) else (if (rd x106001 x30) = 2 then (spec_GoodCommit.j2 k (rd x28 x30) (rd x106001 x30) t110 x28 x29 x30 ((rd x28 x30) != 3) x106000 x106001 x106002) else (spec_GoodCommit.j2 k (rd x28 x30) (rd x106001 x30) t110 x28 x29 x30 false x106000 x106001 x106002))) else (spec_GoodCommit.j2 k (rd x28 x30) (rd x106001 x30) t110 x28 x29 x30 true x106000 x106001 x106002))) else (spec_GoodCommit.j2 k (rd x28 x30) (rd x106001 x30) t110 x28 x29 x30 true x106000 x106001 x106002)))) else (none)) else (none)) else (none)) else (some true)
def spec_GoodCommit.j2 : Nat → Int → Int → Bool → List Int → Int → Int → Bool → List Int → List Int → Int → Option (Bool)
  | 0, _, _, _, _, _, _, _, _, _, _ => none
  | k + 1, x4, x5, x6, x28, x29, x30, x66, x106000, x106001, x106002 => if x66 = true then (some false) else (if x4 = 2 then (if x106002 = 1 then (if x4 = 3 then (some false) else (if x5 = 1 then (spec_GoodCommit.l0 k x28 x29 (wrap64 (x30 + 1)) x106000 x106001 x106002) else (some false))) else (some false)) else (if x4 = 3 then (if x106002 = 1 then (some false) else (if x106002 = 0 then (if x6 = true then (spec_GoodCommit.l0 k x28 x29 (wrap64 (x30 + 1)) x106000 x106001 x106002) else (some false)) else (spec_GoodCommit.l0 k x28 x29 (wrap64 (x30 + 1)) x106000 x106001 x106002))) else (if x106002 = 1 then (if x5 = 1 then (spec_GoodCommit.l0 k x28 x29 (wrap64 (x30 + 1)) x106000 x106001 x106002) else (some false)) else (spec_GoodCommit.l0 k x28 x29 (wrap64 (x30 + 1)) x106000 x106001 x106002))))
end
def spec_GoodCommit.f (k : Nat) (l0_0 : List Int) (l0_1 : List Int) (a0_2 : Int) : Option (Bool) := (spec_l1In.f (l0_0.length : Int) 1 5).bind fun t106 => (if t106 = true then (if (l0_1.length : Int) = (l0_0.length : Int) then ((spec_l1In.f a0_2 0 2).bind fun t107 => (spec_GoodCommit.j0 k (!t107) l0_0 l0_1 a0_2)) else (spec_GoodCommit.j0 k true l0_0 l0_1 a0_2)) else (spec_GoodCommit.j0 k true l0_0 l0_1 a0_2))
theorem spec_GoodCommit.mono_l : ∀ k, (∀ y0 y1 y2 y3, LeO (spec_GoodCommit.j0 k y0 y1 y2 y3) (spec_GoodCommit.j0 (k + 1) y0 y1 y2 y3)) ∧ (∀ y0 y1 y2 y3 y4 y5, LeO (spec_GoodCommit.l0 k y0 y1 y2 y3 y4 y5) (spec_GoodCommit.l0 (k + 1) y0 y1 y2 y3 y4 y5)) ∧ (∀ y0 y1 y2 y3 y4 y5 y6 y7 y8 y9, LeO (spec_GoodCommit.j2 k y0 y1 y2 y3 y4 y5 y6 y7 y8 y9) (spec_GoodCommit.j2 (k + 1) y0 y1 y2 y3 y4 y5 y6 y7 y8 y9))
  | 0 => ⟨fun _ _ _ _ r h => by simp [spec_GoodCommit.j0] at h, fun _ _ _ _ _ _ r h => by simp [spec_GoodCommit.l0] at h, fun _ _ _ _ _ _ _ _ _ _ r h => by simp [spec_GoodCommit.j2] at h⟩
  | k + 1 => by
    obtain ⟨ih0, ih1, ih2⟩ := spec_GoodCommit.mono_l k
    refine ⟨?_, ?_, ?_⟩
    · intro y0 y1 y2 y3
      unfold spec_GoodCommit.j0
      repeat' first
      | (with_reducible exact ih0 _ _ _ _)
      | (with_reducible exact ih1 _ _ _ _ _ _)
      | (with_reducible exact ih2 _ _ _ _ _ _ _ _ _ _)
      | (with_reducible exact spec_l1Has.mono _ _ _)
      | (with_reducible exact LeO.refl _)
      | (with_reducible exact LeO.none _)
      | (with_reducible refine LeO.ite ?_ ?_)
      | (with_reducible refine LeO.bind ?_ (fun _ => ?_))
      | exact ih0 _ _ _ _
      | exact ih1 _ _ _ _ _ _
      | exact ih2 _ _ _ _ _ _ _ _ _ _
      | exact spec_l1Has.mono _ _ _
      | exact LeO.none _
      | refine LeO.ite ?_ ?_
      | refine LeO.bind ?_ (fun _ => ?_)
    · intro y0 y1 y2 y3 y4 y5
      unfold spec_GoodCommit.l0
      repeat' first
      | (with_reducible exact ih0 _ _ _ _)
      | (with_reducible exact ih1 _ _ _ _ _ _)
      | (with_reducible exact ih2 _ _ _ _ _ _ _ _ _ _)
      | (with_reducible exact spec_l1Has.mono _ _ _)
      | (with_reducible exact LeO.refl _)
      | (with_reducible exact LeO.none _)
      | (with_reducible refine LeO.ite ?_ ?_)
      | (with_reducible refine LeO.bind ?_ (fun _ => ?_))
      | exact ih0 _ _ _ _
      | exact ih1 _ _ _ _ _ _
      | exact ih2 _ _ _ _ _ _ _ _ _ _
      | exact spec_l1Has.mono _ _ _
      | exact LeO.none _
      | refine LeO.ite ?_ ?_
      | refine LeO.bind ?_ (fun _ => ?_)
    · intro y0 y1 y2 y3 y4 y5 y6 y7 y8 y9
      unfold spec_GoodCommit.j2
      repeat' first
      | (with_reducible exact ih0 _ _ _ _)
      | (with_reducible exact ih1 _ _ _ _ _ _)
      | (with_reducible exact ih2 _ _ _ _ _ _ _ _ _ _)
      | (with_reducible exact spec_l1Has.mono _ _ _)
      | (with_reducible exact LeO.refl _)
      | (with_reducible exact LeO.none _)
      | (with_reducible refine LeO.ite ?_ ?_)
      | (with_reducible refine LeO.bind ?_ (fun _ => ?_))
      | exact ih0 _ _ _ _
      | exact ih1 _ _ _ _ _ _
      | exact ih2 _ _ _ _ _ _ _ _ _ _
      | exact spec_l1Has.mono _ _ _
      | exact LeO.none _
      | refine LeO.ite ?_ ?_
      | refine LeO.bind ?_ (fun _ => ?_)
theorem spec_GoodCommit.mono : ∀ a0 a1 a2 k, LeO (spec_GoodCommit.f k a0 a1 a2) (spec_GoodCommit.f (k + 1) a0 a1 a2) := by
  intro a0 a1 a2 k
  obtain ⟨ih0, ih1, ih2⟩ := spec_GoodCommit.mono_l k
  unfold spec_GoodCommit.f
  repeat' first
      | (with_reducible exact ih0 _ _ _ _)
      | (with_reducible exact ih1 _ _ _ _ _ _)
      | (with_reducible exact ih2 _ _ _ _ _ _ _ _ _ _)
      | (with_reducible exact spec_l1Has.mono _ _ _)
      | (with_reducible exact LeO.refl _)
      | (with_reducible exact LeO.none _)
      | (with_reducible refine LeO.ite ?_ ?_)
      | (with_reducible refine LeO.bind ?_ (fun _ => ?_))
      | exact ih0 _ _ _ _
      | exact ih1 _ _ _ _ _ _
      | exact ih2 _ _ _ _ _ _ _ _ _ _
      | exact spec_l1Has.mono _ _ _
      | exact LeO.none _
      | refine LeO.ite ?_ ?_
      | refine LeO.bind ?_ (fun _ => ?_)
set_option maxHeartbeats 8000000 in
set_option maxRecDepth 100000 in
theorem spec_GoodCommit.calls (k : Nat) (A0_0 : Option Addr) (c0_0 : Nat) (l0_0 : List Int) (A0_1 : Option Addr) (c0_1 : Nat) (l0_1 : List Int) (a0_2 : Int) (r : Bool) (w : World) (hr0_0 : Kd.C (Kd.int .i64) w A0_0 l0_0.length l0_0) (hc0_0 : l0_0.length ≤ c0_0) (hr0_1 : Kd.C (Kd.int .i64) w A0_1 l0_1.length l0_1) (hc0_1 : l0_1.length ≤ c0_1) (h : spec_GoodCommit.f k l0_0 l0_1 a0_2 = some r) :
    Calls Try.prog 22 #[.agg #[.slice A0_0 l0_0.length c0_0, .slice A0_1 l0_1.length c0_1, .int .i64 a0_2]] w fun e w' => e = .returned (.bool r) ∧ Below w.heap.size w w' := by
  have hu26 := Try.underlying26
  have HR0_0 := Aside0.mk hr0_0
  have HC0_0 := Aside0.mk hc0_0
  clear hr0_0 hc0_0
  have HR0_1 := Aside0.mk hr0_1
  have HC0_1 := Aside0.mk hc0_1
  clear hr0_1 hc0_1
  have HB := Aside0.mk (Below.refl w.heap.size w)
  have H : ((spec_l1In.f (l0_0.length : Int) 1 5).bind fun t106 => (if t106 = true then (if (l0_1.length : Int) = (l0_0.length : Int) then ((spec_l1In.f a0_2 0 2).bind fun t107 => (spec_GoodCommit.j0 k (!t107) l0_0 l0_1 a0_2)) else (spec_GoodCommit.j0 k true l0_0 l0_1 a0_2)) else (spec_GoodCommit.j0 k true l0_0 l0_1 a0_2))) = some r := h
  clear h
  have HC2 := Aside0.mk H
  clear H
  go_enter Try.func22, Try.ntmps22
  go_upto_region 1 with (first | ((with_reducible refine gate_dst (N := 1) rfl ?_); (try (refine gate_guard (by rfl) ?_; dsimp only)); refine box_event ?hg (N := 1) ?hd (cs := #[.slice A0_0 l0_0.length c0_0, .slice A0_1 l0_1.length c0_1, .int .i64 a0_2]) (t := 26) ?hr ?_; (case hd => rfl); (case hg => rfl); (case hr => first | (go_simp; done) | (go_simp; rfl)); intro gb105 hg w3 hbox hb; have n0_ := Aside0.mk (below_step (by repeat (first | (with_reducible first | exact HB.out | apply below_alloc | apply pw_below_drewN | apply below_drew1) | exact HB.out)) hb); have n1_ := Aside0.mk (hbox); have n2_ := Aside0.mk ((by rw [hg]; exact (below_size (by repeat (first | (with_reducible first | exact HB.out | apply below_alloc | apply pw_below_drewN | apply below_drew1) | exact HB.out))) : w.heap.size ≤ gb105)); have n3_ := Aside0.mk ((by rw [hg]; exact (below_size (by repeat (first | (with_reducible first | exact HB.out | apply below_alloc | apply pw_below_drewN | apply below_drew1) | exact HB.out))) : w.heap.size ≤ gb105)); clear HB; have HB := n0_; have BK105 := n1_; have GW105 := n2_; have GE105 := n3_; clear n0_ n1_ n2_ n3_; clear hb hbox hg))
  (try simp only [Act.put, List.setIfInBounds_toArray, List.set_cons_zero, List.set_cons_succ])
  go_cut [26] (fun v26 wc => ∃ (kq : Nat) (x26_1 : Bool), v26 = .bool x26_1 ∧ Aside0 (spec_GoodCommit.j0 kq x26_1 l0_0 l0_1 a0_2 = some r) ∧ Aside0 (kq ≤ k) ∧ Aside0 (wc.heap[gb105]? = some (.cells #[(.slice A0_0 l0_0.length c0_0), (.slice A0_1 l0_1.length c0_1), .int .i64 a0_2] 26 (0, 0))) ∧ Aside0 (Below w.heap.size w wc))
  case first =>
    have H := HC2.out
    clear HC2
    replace H := Option.bind_eq_some_iff.mp H
    obtain ⟨t106, A40, H⟩ := H
    replace H : (if t106 = true then (if (l0_1.length : Int) = (l0_0.length : Int) then ((spec_l1In.f a0_2 0 2).bind fun t107 => (spec_GoodCommit.j0 k (!t107) l0_0 l0_1 a0_2)) else (spec_GoodCommit.j0 k true l0_0 l0_1 a0_2)) else (spec_GoodCommit.j0 k true l0_0 l0_1 a0_2)) = some r := H
    have A4 := Aside0.mk A40
    clear A40
    by_cases c5 : t106 = true
    · subst c5
      have H1 : (if (l0_1.length : Int) = (l0_0.length : Int) then ((spec_l1In.f a0_2 0 2).bind fun t107 => (spec_GoodCommit.j0 k (!t107) l0_0 l0_1 a0_2)) else (spec_GoodCommit.j0 k true l0_0 l0_1 a0_2)) = some r := by rw [if_pos rfl] at H; exact H
      clear H
      have H := H1
      clear H1
      by_cases c6 : (l0_1.length : Int) = (l0_0.length : Int)
      · rw [if_pos c6] at H
        have c6b0 : ((l0_1.length : Int) == (l0_0.length : Int)) = true := beq_iff_eq.mpr c6
        have c6b1 : ((l0_1.length : Int) != (l0_0.length : Int)) = false := bne_eq_false_iff_eq.mpr c6
        have c6b2 : (l0_1.length == l0_0.length) = true := by first | simpa using c6 | (simp at c6 ⊢; omega)
        clear c6
        (first | rw [c6b0] | (simp only [i64_w, i32_w]; rw [c6b0]) | skip)
        replace H := Option.bind_eq_some_iff.mp H
        obtain ⟨t107, A70, H⟩ := H
        replace H : (spec_GoodCommit.j0 k (!t107) l0_0 l0_1 a0_2) = some r := H
        have A7 := Aside0.mk A70
        clear A70
        have H' := Aside0.mk H
        clear H
        have hcz8_0 : w3.cell? ⟨gb105, 0, none⟩ = some (.slice A0_0 l0_0.length c0_0) := (blk_cell BK105.out 0).trans rfl
        have hcz8_1 : w3.cell? ⟨gb105, 1, none⟩ = some (.slice A0_1 l0_1.length c0_1) := (blk_cell BK105.out 1).trans rfl
        have hcz8_2 : w3.cell? ⟨gb105, 2, none⟩ = some (.int .i64 a0_2) := (blk_cell BK105.out 2).trans rfl
        have hfz8_0 := blk_frozen BK105.out 0
        have hfz8_1 := blk_frozen BK105.out 1
        have hfz8_2 := blk_frozen BK105.out 2
        go_wp2_with (first | ((with_reducible refine gate_callee (f := 38) rfl ?_); refine goesL_ (some 10) rfl rfl Try.func38 (by kernel_rfl) rfl #[.int .i64 (l0_0.length : Int), .int .i64 1, .int .i64 5] rfl (by (try simp only [List.map_toArray, List.map_cons, List.map_nil]); first | done | rfl | (simp only [List.length_drop, List.length_take]; rfl)) ?_; (with_reducible refine (spec_l1In.calls (l0_0.length : Int) 1 5 true _ A4.out).mono ?_); rintro e w' ⟨rfl, ⟨nd, rfl⟩⟩; refine ⟨_, rfl, ?_⟩) | (go_at_call 38; (with_reducible refine (spec_l1In.calls a0_2 0 2 t107 _ A7.out).mono ?_); rintro e w' ⟨rfl, ⟨nd, rfl⟩⟩))
        go_meet
        case rel => exact ⟨_, (!t107), (by first | rfl | (simp; done) | (simp [*]; done)), H', ⟨by first | omega | exact Nat.le_refl _⟩, ⟨by (with_reducible repeat (first | refine blk_drewN ?_ _ | refine blk_drew ?_ | refine blk_alloc ?_ _)); exact BK105.out⟩, ⟨by repeat (first | (with_reducible first | exact HB.out | apply below_alloc | apply pw_below_drewN | apply below_drew1 | refine below_set ?_ GE105.out) | exact HB.out)⟩⟩
      · rw [if_neg c6] at H
        have c6b0 : ((l0_1.length : Int) == (l0_0.length : Int)) = false := beq_eq_false_iff_ne.mpr c6
        have c6b1 : ((l0_1.length : Int) != (l0_0.length : Int)) = true := bne_iff_ne.mpr c6
        have c6b2 : (l0_1.length == l0_0.length) = false := by first | simpa using c6 | (simp at c6 ⊢; omega)
        (first | rw [c6b0] | (simp only [i64_w, i32_w]; rw [c6b0]) | skip)
        have H' := Aside0.mk H
        clear H
        have hcz9_0 : w3.cell? ⟨gb105, 0, none⟩ = some (.slice A0_0 l0_0.length c0_0) := (blk_cell BK105.out 0).trans rfl
        have hcz9_1 : w3.cell? ⟨gb105, 1, none⟩ = some (.slice A0_1 l0_1.length c0_1) := (blk_cell BK105.out 1).trans rfl
        have hcz9_2 : w3.cell? ⟨gb105, 2, none⟩ = some (.int .i64 a0_2) := (blk_cell BK105.out 2).trans rfl
        have hfz9_0 := blk_frozen BK105.out 0
        have hfz9_1 := blk_frozen BK105.out 1
        have hfz9_2 := blk_frozen BK105.out 2
        go_wp2_with (first | ((with_reducible refine gate_callee (f := 38) rfl ?_); refine goesL_ (some 10) rfl rfl Try.func38 (by kernel_rfl) rfl #[.int .i64 (l0_0.length : Int), .int .i64 1, .int .i64 5] rfl (by (try simp only [List.map_toArray, List.map_cons, List.map_nil]); first | done | rfl | (simp only [List.length_drop, List.length_take]; rfl)) ?_; (with_reducible refine (spec_l1In.calls (l0_0.length : Int) 1 5 true _ A4.out).mono ?_); rintro e w' ⟨rfl, ⟨nd, rfl⟩⟩; refine ⟨_, rfl, ?_⟩))
        go_meet
        case rel => exact ⟨_, (true), (by first | rfl | (simp; done) | (simp [*]; done)), H', ⟨by first | omega | exact Nat.le_refl _⟩, ⟨by (with_reducible repeat (first | refine blk_drewN ?_ _ | refine blk_drew ?_ | refine blk_alloc ?_ _)); exact BK105.out⟩, ⟨by repeat (first | (with_reducible first | exact HB.out | apply below_alloc | apply pw_below_drewN | apply below_drew1 | refine below_set ?_ GE105.out) | exact HB.out)⟩⟩
    · replace c5 := Bool.eq_false_iff.mpr c5
      subst c5
      have H1 : (spec_GoodCommit.j0 k true l0_0 l0_1 a0_2) = some r := by rw [if_neg (show ¬ (false = true) by decide)] at H; exact H
      clear H
      have H := H1
      clear H1
      have H' := Aside0.mk H
      clear H
      have hcz10_0 : w3.cell? ⟨gb105, 0, none⟩ = some (.slice A0_0 l0_0.length c0_0) := (blk_cell BK105.out 0).trans rfl
      have hcz10_1 : w3.cell? ⟨gb105, 1, none⟩ = some (.slice A0_1 l0_1.length c0_1) := (blk_cell BK105.out 1).trans rfl
      have hcz10_2 : w3.cell? ⟨gb105, 2, none⟩ = some (.int .i64 a0_2) := (blk_cell BK105.out 2).trans rfl
      have hfz10_0 := blk_frozen BK105.out 0
      have hfz10_1 := blk_frozen BK105.out 1
      have hfz10_2 := blk_frozen BK105.out 2
      go_wp2_with (first | ((with_reducible refine gate_callee (f := 38) rfl ?_); refine goesL_ (some 10) rfl rfl Try.func38 (by kernel_rfl) rfl #[.int .i64 (l0_0.length : Int), .int .i64 1, .int .i64 5] rfl (by (try simp only [List.map_toArray, List.map_cons, List.map_nil]); first | done | rfl | (simp only [List.length_drop, List.length_take]; rfl)) ?_; (with_reducible refine (spec_l1In.calls (l0_0.length : Int) 1 5 false _ A4.out).mono ?_); rintro e w' ⟨rfl, ⟨nd, rfl⟩⟩; refine ⟨_, rfl, ?_⟩))
      go_meet
      case rel => exact ⟨_, (true), (by first | rfl | (simp; done) | (simp [*]; done)), H', ⟨by first | omega | exact Nat.le_refl _⟩, ⟨by (with_reducible repeat (first | refine blk_drewN ?_ _ | refine blk_drew ?_ | refine blk_alloc ?_ _)); exact BK105.out⟩, ⟨by repeat (first | (with_reducible first | exact HB.out | apply below_alloc | apply pw_below_drewN | apply below_drew1 | refine below_set ?_ GE105.out) | exact HB.out)⟩⟩
  case rest =>
    clear HC2
    try clear c2
    try clear p2
    try clear c3
    try clear c5
    try clear c6
    try clear c6b0
    try clear c6b1
    try clear c6b2
    try clear hcz10_0
    try clear hcz10_1
    try clear hcz10_2
    try clear hcz8_0
    try clear hcz8_1
    try clear hcz8_2
    try clear hcz9_0
    try clear hcz9_1
    try clear hcz9_2
    try clear hfz10_0
    try clear hfz10_1
    try clear hfz10_2
    try clear hfz8_0
    try clear hfz8_1
    try clear hfz8_2
    try clear hfz9_0
    try clear hfz9_1
    try clear hfz9_2
    obtain ⟨kq, x26_1, rfl, HA, HJ1, BK105, HB⟩ := hcut
    cases kq with
    | zero => exact absurd HA.out (by simp [spec_GoodCommit.j0])
    | succ kj1 =>
      have H := HA.out
      clear HA
      simp only [spec_GoodCommit.j0] at H
      by_cases c11 : x26_1 = true
      · subst c11
        have H1 : (some false) = some r := by rw [if_pos rfl] at H; exact H
        clear H
        have H := H1
        clear H1
        obtain rfl := Option.some.inj H
        go_wp2
        go_ret
        exact ⟨by first | rfl | (simp [errW_none, errW_some] <;> rfl) | (simp [*, errW_none, errW_some] <;> rfl), by repeat (first | (with_reducible first | exact HB.out | apply below_alloc | apply pw_below_drewN | apply below_drew1 | refine below_set ?_ GE105.out) | exact HB.out)⟩
      · replace c11 := Bool.eq_false_iff.mpr c11
        subst c11
        have H1 : (spec_GoodCommit.l0 kj1 l0_0 (l0_0.length : Int) 0 l0_0 l0_1 a0_2) = some r := by rw [if_neg (show ¬ (false = true) by decide)] at H; exact H
        clear H
        have H := H1
        clear H1
        have H' := Aside0.mk H
        clear H
        have hcz12_0 : wc.cell? ⟨gb105, 0, none⟩ = some (.slice A0_0 l0_0.length c0_0) := (blk_cell BK105.out 0).trans rfl
        have hcz12_1 : wc.cell? ⟨gb105, 1, none⟩ = some (.slice A0_1 l0_1.length c0_1) := (blk_cell BK105.out 1).trans rfl
        have hcz12_2 : wc.cell? ⟨gb105, 2, none⟩ = some (.int .i64 a0_2) := (blk_cell BK105.out 2).trans rfl
        have hfz12_0 := blk_frozen BK105.out 0
        have hfz12_1 := blk_frozen BK105.out 1
        have hfz12_2 := blk_frozen BK105.out 2
        go_wp2
        go_loopg [30] kj1 (fun kq v30 w' => ∃ (x30_2 : Int), v30 = .int .i64 x30_2 ∧ Aside0 (spec_GoodCommit.l0 kq l0_0 (l0_0.length : Int) x30_2 l0_0 l0_1 a0_2 = some r) ∧ Aside0 (kq ≤ kj1) ∧ Aside0 (w'.heap[gb105]? = some (.cells #[(.slice A0_0 l0_0.length c0_0), (.slice A0_1 l0_1.length c0_1), .int .i64 a0_2] 26 (0, 0))) ∧ Aside0 (Below w.heap.size w w'))
        case atStart => exact ⟨(0), (by first | rfl | (simp; done) | (simp [*]; done)), H', ⟨Nat.le_refl _⟩, ⟨by (with_reducible repeat (first | refine blk_drewN ?_ _ | refine blk_drew ?_ | refine blk_alloc ?_ _)); exact BK105.out⟩, ⟨by repeat (first | (with_reducible first | exact HB.out | apply below_alloc | apply pw_below_drewN | apply below_drew1 | refine below_set ?_ GE105.out) | exact HB.out)⟩⟩
        case round =>
          clear H'
          try clear c1
          try clear c2
          try clear p2
          try clear c3
          try clear c5
          try clear c6
          try clear c6b0
          try clear c6b1
          try clear c6b2
          try clear c11
          try clear hcz10_0
          try clear hcz10_1
          try clear hcz10_2
          try clear hcz12_0
          try clear hcz12_1
          try clear hcz12_2
          try clear hcz8_0
          try clear hcz8_1
          try clear hcz8_2
          try clear hcz9_0
          try clear hcz9_1
          try clear hcz9_2
          try clear hfz10_0
          try clear hfz10_1
          try clear hfz10_2
          try clear hfz12_0
          try clear hfz12_1
          try clear hfz12_2
          try clear hfz8_0
          try clear hfz8_1
          try clear hfz8_2
          try clear hfz9_0
          try clear hfz9_1
          try clear hfz9_2
          try clear p2
          obtain ⟨x30_2, rfl, HA, HK2, BK105, HB⟩ := hrel
          cases gk with
          | zero => exact absurd HA.out (by simp [spec_GoodCommit.l0])
          | succ k2 =>
            have H := HA.out
            clear HA
            simp only [spec_GoodCommit.l0] at H
            by_cases c13 : x30_2 < (l0_0.length : Int)
            · rw [if_pos c13] at H
              have c13b0 : decide (x30_2 < (l0_0.length : Int)) = true := decide_eq_true c13
              clear c13
              by_cases c14 : 0 ≤ x30_2
              · rw [if_pos c14] at H
                have c14b0 : decide (0 ≤ x30_2) = true := decide_eq_true c14
                clear c14
                by_cases c15 : x30_2 < (l0_0.length : Int)
                · rw [if_pos c15] at H
                  have c15b0 : decide (x30_2 < (l0_0.length : Int)) = true := decide_eq_true c15
                  clear c15
                  by_cases c16 : x30_2 < (l0_1.length : Int)
                  · rw [if_pos c16] at H
                    have c16b0 : decide (x30_2 < (l0_1.length : Int)) = true := decide_eq_true c16
                    clear c16
                    replace H := Option.bind_eq_some_iff.mp H
                    obtain ⟨t110, A170, H⟩ := H
                    replace H : ((spec_l1In.f (rd l0_0 x30_2) 0 3).bind fun t111 => (if t111 = true then ((spec_l1In.f (rd l0_1 x30_2) 0 2).bind fun t112 => (if t112 = true then (if (rd l0_1 x30_2) = 1 then (if (rd l0_0 x30_2) = 0 then (spec_GoodCommit.j2 k2 (rd l0_0 x30_2) (rd l0_1 x30_2) t110 l0_0 (l0_0.length : Int) x30_2 true l0_0 l0_1 a0_2) else (if (rd l0_1 x30_2) = 2 then (spec_GoodCommit.j2 k2 (rd l0_0 x30_2) (rd l0_1 x30_2) t110 l0_0 (l0_0.length : Int) x30_2 ((rd l0_0 x30_2) != 3) l0_0 l0_1 a0_2) else (spec_GoodCommit.j2 k2 (rd l0_0 x30_2) (rd l0_1 x30_2) t110 l0_0 (l0_0.length : Int) x30_2 false l0_0 l0_1 a0_2))) else (if (rd l0_1 x30_2) = 2 then (spec_GoodCommit.j2 k2 (rd l0_0 x30_2) (rd l0_1 x30_2) t110 l0_0 (l0_0.length : Int) x30_2 ((rd l0_0 x30_2) != 3) l0_0 l0_1 a0_2) else (spec_GoodCommit.j2 k2 (rd l0_0 x30_2) (rd l0_1 x30_2) t110 l0_0 (l0_0.length : Int) x30_2 false l0_0 l0_1 a0_2))) else (spec_GoodCommit.j2 k2 (rd l0_0 x30_2) (rd l0_1 x30_2) t110 l0_0 (l0_0.length : Int) x30_2 true l0_0 l0_1 a0_2))) else (spec_GoodCommit.j2 k2 (rd l0_0 x30_2) (rd l0_1 x30_2) t110 l0_0 (l0_0.length : Int) x30_2 true l0_0 l0_1 a0_2))) = some r := H
                    have A17 := Aside0.mk A170
                    clear A170
                    have HC18 := Aside0.mk H
                    clear H
                    have p108 : 0 ≤ (x30_2 : Int) := of_decide_eq_true (by first | (with_reducible assumption) | assumption)
                    have q108 : x30_2 < (l0_0.length : Int) := of_decide_eq_true (by first | (with_reducible assumption) | assumption)
                    obtain ⟨ad108, e108, hx108_0⟩ := Kd.at_int HR0_0.out x30_2 p108 q108
                    cases e108
                    try replace hx108_0 := (HB.out.cell (World.block_lt_of_cell? w _ hx108_0)).trans hx108_0
                    replace p108 := eq_true p108
                    replace q108 := eq_true q108
                    have hcz19_0 : wr.cell? ⟨gb105, 0, none⟩ = some (.slice (some ad108) l0_0.length c0_0) := (blk_cell BK105.out 0).trans rfl
                    have hcz19_1 : wr.cell? ⟨gb105, 1, none⟩ = some (.slice A0_1 l0_1.length c0_1) := (blk_cell BK105.out 1).trans rfl
                    have hcz19_2 : wr.cell? ⟨gb105, 2, none⟩ = some (.int .i64 a0_2) := (blk_cell BK105.out 2).trans rfl
                    have hfz19_0 := blk_frozen BK105.out 0
                    have hfz19_1 := blk_frozen BK105.out 1
                    have hfz19_2 := blk_frozen BK105.out 2
                    have p109 : 0 ≤ (x30_2 : Int) := of_decide_eq_true (by first | (with_reducible assumption) | assumption)
                    have q109 : x30_2 < (l0_1.length : Int) := of_decide_eq_true (by first | (with_reducible assumption) | assumption)
                    obtain ⟨ad109, e109, hx109_0⟩ := Kd.at_int HR0_1.out x30_2 p109 q109
                    cases e109
                    try replace hx109_0 := (HB.out.cell (World.block_lt_of_cell? w _ hx109_0)).trans hx109_0
                    replace p109 := eq_true p109
                    replace q109 := eq_true q109
                    go_upto_region 8 with (first | ((with_reducible refine gate_callee (f := 39) rfl ?_); refine goesL_ (some 42) rfl rfl Try.func39 (by kernel_rfl) rfl #[.slice (some ad109) l0_1.length c0_1, .int .i64 2] rfl (by (try simp only [List.map_toArray, List.map_cons, List.map_nil]); first | done | rfl | (simp only [List.length_drop, List.length_take]; rfl)) ?_; (with_reducible refine (spec_l1Has.calls k2 _ _ l0_1 2 t110 _ ?side1 ?side2 A17.out).mono ?_); (case side1 => repeat (first | exact (Kd.C_below HR0_1.out HB.out) | exact HR0_1.out | (with_reducible refine Kd.C_alloc ?_ _) | (with_reducible refine Kd.C_drewN ?_ _) | (with_reducible refine Kd.C_drew ?_))); (case side2 => exact HC0_1.out); rintro e w' ⟨rfl, ⟨nd, rfl⟩⟩; refine ⟨_, rfl, ?_⟩))
                    (try simp only [Act.put, List.setIfInBounds_toArray, List.set_cons_zero, List.set_cons_succ])
                    go_cut [66] (fun v66 wc => ∃ (kq : Nat) (x66_17 : Bool), v66 = .bool x66_17 ∧ Aside0 (spec_GoodCommit.j2 kq (rd l0_0 x30_2) (rd l0_1 x30_2) t110 l0_0 (l0_0.length : Int) x30_2 x66_17 l0_0 l0_1 a0_2 = some r) ∧ Aside0 (kq ≤ k2) ∧ Aside0 (wc.heap[gb105]? = some (.cells #[(.slice (some ad108) l0_0.length c0_0), (.slice (some ad109) l0_1.length c0_1), .int .i64 a0_2] 26 (0, 0))) ∧ Aside0 (Below w.heap.size w wc))
                    case first =>
                      have H := HC18.out
                      clear HC18
                      replace H := Option.bind_eq_some_iff.mp H
                      obtain ⟨t111, A200, H⟩ := H
                      replace H : (if t111 = true then ((spec_l1In.f (rd l0_1 x30_2) 0 2).bind fun t112 => (if t112 = true then (if (rd l0_1 x30_2) = 1 then (if (rd l0_0 x30_2) = 0 then (spec_GoodCommit.j2 k2 (rd l0_0 x30_2) (rd l0_1 x30_2) t110 l0_0 (l0_0.length : Int) x30_2 true l0_0 l0_1 a0_2) else (if (rd l0_1 x30_2) = 2 then (spec_GoodCommit.j2 k2 (rd l0_0 x30_2) (rd l0_1 x30_2) t110 l0_0 (l0_0.length : Int) x30_2 ((rd l0_0 x30_2) != 3) l0_0 l0_1 a0_2) else (spec_GoodCommit.j2 k2 (rd l0_0 x30_2) (rd l0_1 x30_2) t110 l0_0 (l0_0.length : Int) x30_2 false l0_0 l0_1 a0_2))) else (if (rd l0_1 x30_2) = 2 then (spec_GoodCommit.j2 k2 (rd l0_0 x30_2) (rd l0_1 x30_2) t110 l0_0 (l0_0.length : Int) x30_2 ((rd l0_0 x30_2) != 3) l0_0 l0_1 a0_2) else (spec_GoodCommit.j2 k2 (rd l0_0 x30_2) (rd l0_1 x30_2) t110 l0_0 (l0_0.length : Int) x30_2 false l0_0 l0_1 a0_2))) else (spec_GoodCommit.j2 k2 (rd l0_0 x30_2) (rd l0_1 x30_2) t110 l0_0 (l0_0.length : Int) x30_2 true l0_0 l0_1 a0_2))) else (spec_GoodCommit.j2 k2 (rd l0_0 x30_2) (rd l0_1 x30_2) t110 l0_0 (l0_0.length : Int) x30_2 true l0_0 l0_1 a0_2)) = some r := H
                      have A20 := Aside0.mk A200
                      clear A200
                      by_cases c21 : t111 = true
                      · subst c21
                        have H1 : ((spec_l1In.f (rd l0_1 x30_2) 0 2).bind fun t112 => (if t112 = true then (if (rd l0_1 x30_2) = 1 then (if (rd l0_0 x30_2) = 0 then (spec_GoodCommit.j2 k2 (rd l0_0 x30_2) (rd l0_1 x30_2) t110 l0_0 (l0_0.length : Int) x30_2 true l0_0 l0_1 a0_2) else (if (rd l0_1 x30_2) = 2 then (spec_GoodCommit.j2 k2 (rd l0_0 x30_2) (rd l0_1 x30_2) t110 l0_0 (l0_0.length : Int) x30_2 ((rd l0_0 x30_2) != 3) l0_0 l0_1 a0_2) else (spec_GoodCommit.j2 k2 (rd l0_0 x30_2) (rd l0_1 x30_2) t110 l0_0 (l0_0.length : Int) x30_2 false l0_0 l0_1 a0_2))) else (if (rd l0_1 x30_2) = 2 then (spec_GoodCommit.j2 k2 (rd l0_0 x30_2) (rd l0_1 x30_2) t110 l0_0 (l0_0.length : Int) x30_2 ((rd l0_0 x30_2) != 3) l0_0 l0_1 a0_2) else (spec_GoodCommit.j2 k2 (rd l0_0 x30_2) (rd l0_1 x30_2) t110 l0_0 (l0_0.length : Int) x30_2 false l0_0 l0_1 a0_2))) else (spec_GoodCommit.j2 k2 (rd l0_0 x30_2) (rd l0_1 x30_2) t110 l0_0 (l0_0.length : Int) x30_2 true l0_0 l0_1 a0_2))) = some r := by rw [if_pos rfl] at H; exact H
                        clear H
                        have H := H1
                        clear H1
                        replace H := Option.bind_eq_some_iff.mp H
                        obtain ⟨t112, A220, H⟩ := H
                        replace H : (if t112 = true then (if (rd l0_1 x30_2) = 1 then (if (rd l0_0 x30_2) = 0 then (spec_GoodCommit.j2 k2 (rd l0_0 x30_2) (rd l0_1 x30_2) t110 l0_0 (l0_0.length : Int) x30_2 true l0_0 l0_1 a0_2) else (if (rd l0_1 x30_2) = 2 then (spec_GoodCommit.j2 k2 (rd l0_0 x30_2) (rd l0_1 x30_2) t110 l0_0 (l0_0.length : Int) x30_2 ((rd l0_0 x30_2) != 3) l0_0 l0_1 a0_2) else (spec_GoodCommit.j2 k2 (rd l0_0 x30_2) (rd l0_1 x30_2) t110 l0_0 (l0_0.length : Int) x30_2 false l0_0 l0_1 a0_2))) else (if (rd l0_1 x30_2) = 2 then (spec_GoodCommit.j2 k2 (rd l0_0 x30_2) (rd l0_1 x30_2) t110 l0_0 (l0_0.length : Int) x30_2 ((rd l0_0 x30_2) != 3) l0_0 l0_1 a0_2) else (spec_GoodCommit.j2 k2 (rd l0_0 x30_2) (rd l0_1 x30_2) t110 l0_0 (l0_0.length : Int) x30_2 false l0_0 l0_1 a0_2))) else (spec_GoodCommit.j2 k2 (rd l0_0 x30_2) (rd l0_1 x30_2) t110 l0_0 (l0_0.length : Int) x30_2 true l0_0 l0_1 a0_2)) = some r := H
                        have A22 := Aside0.mk A220
                        clear A220
                        by_cases c23 : t112 = true
                        · subst c23
                          have H1 : (if (rd l0_1 x30_2) = 1 then (if (rd l0_0 x30_2) = 0 then (spec_GoodCommit.j2 k2 (rd l0_0 x30_2) (rd l0_1 x30_2) t110 l0_0 (l0_0.length : Int) x30_2 true l0_0 l0_1 a0_2) else (if (rd l0_1 x30_2) = 2 then (spec_GoodCommit.j2 k2 (rd l0_0 x30_2) (rd l0_1 x30_2) t110 l0_0 (l0_0.length : Int) x30_2 ((rd l0_0 x30_2) != 3) l0_0 l0_1 a0_2) else (spec_GoodCommit.j2 k2 (rd l0_0 x30_2) (rd l0_1 x30_2) t110 l0_0 (l0_0.length : Int) x30_2 false l0_0 l0_1 a0_2))) else (if (rd l0_1 x30_2) = 2 then (spec_GoodCommit.j2 k2 (rd l0_0 x30_2) (rd l0_1 x30_2) t110 l0_0 (l0_0.length : Int) x30_2 ((rd l0_0 x30_2) != 3) l0_0 l0_1 a0_2) else (spec_GoodCommit.j2 k2 (rd l0_0 x30_2) (rd l0_1 x30_2) t110 l0_0 (l0_0.length : Int) x30_2 false l0_0 l0_1 a0_2))) = some r := by rw [if_pos rfl] at H; exact H
                          clear H
                          have H := H1
                          clear H1
                          by_cases c24 : (rd l0_1 x30_2) = 1
                          · rw [if_pos c24] at H
                            have c24b0 : ((rd l0_1 x30_2) == 1) = true := beq_iff_eq.mpr c24
                            have c24b1 : ((rd l0_1 x30_2) != 1) = false := bne_eq_false_iff_eq.mpr c24
                            clear c24
                            (first | rw [c24b0] | (simp only [i64_w, i32_w]; rw [c24b0]) | skip)
                            by_cases c25 : (rd l0_0 x30_2) = 0
                            · rw [if_pos c25] at H
                              have c25b0 : ((rd l0_0 x30_2) == 0) = true := beq_iff_eq.mpr c25
                              have c25b1 : ((rd l0_0 x30_2) != 0) = false := bne_eq_false_iff_eq.mpr c25
                              clear c25
                              have H' := Aside0.mk H
                              clear H
                              go_wp2_with (first | ((with_reducible refine gate_callee (f := 38) rfl ?_); refine goesL_ (some 44) rfl rfl Try.func38 (by kernel_rfl) rfl #[.int .i64 (rd l0_0 x30_2), .int .i64 0, .int .i64 3] rfl (by (try simp only [List.map_toArray, List.map_cons, List.map_nil]); first | done | rfl | (simp only [List.length_drop, List.length_take]; rfl)) ?_; (with_reducible refine (spec_l1In.calls (rd l0_0 x30_2) 0 3 true _ A20.out).mono ?_); rintro e w' ⟨rfl, ⟨nd, rfl⟩⟩; refine ⟨_, rfl, ?_⟩) | (go_at_call 38; (with_reducible refine (spec_l1In.calls (rd l0_1 x30_2) 0 2 true _ A22.out).mono ?_); rintro e w' ⟨rfl, ⟨nd, rfl⟩⟩))
                              go_meet
                              case rel => exact ⟨_, (true), (by first | rfl | (simp; done) | (simp [*]; done)), H', ⟨by have := HJ1.out; have := HK2.out; first | omega | exact Nat.le_refl _⟩, ⟨by (with_reducible repeat (first | refine blk_drewN ?_ _ | refine blk_drew ?_ | refine blk_alloc ?_ _)); exact BK105.out⟩, ⟨by repeat (first | (with_reducible first | exact HB.out | apply below_alloc | apply pw_below_drewN | apply below_drew1 | refine below_set ?_ GE105.out) | exact HB.out)⟩⟩
                            · rw [if_neg c25] at H
                              have c25b0 : ((rd l0_0 x30_2) == 0) = false := beq_eq_false_iff_ne.mpr c25
                              have c25b1 : ((rd l0_0 x30_2) != 0) = true := bne_iff_ne.mpr c25
                              by_cases c26 : (rd l0_1 x30_2) = 2
                              · rw [if_pos c26] at H
                                have c26b0 : ((rd l0_1 x30_2) == 2) = true := beq_iff_eq.mpr c26
                                have c26b1 : ((rd l0_1 x30_2) != 2) = false := bne_eq_false_iff_eq.mpr c26
                                clear c26
                                have H' := Aside0.mk H
                                clear H
                                go_wp2_with (first | ((with_reducible refine gate_callee (f := 38) rfl ?_); refine goesL_ (some 44) rfl rfl Try.func38 (by kernel_rfl) rfl #[.int .i64 (rd l0_0 x30_2), .int .i64 0, .int .i64 3] rfl (by (try simp only [List.map_toArray, List.map_cons, List.map_nil]); first | done | rfl | (simp only [List.length_drop, List.length_take]; rfl)) ?_; (with_reducible refine (spec_l1In.calls (rd l0_0 x30_2) 0 3 true _ A20.out).mono ?_); rintro e w' ⟨rfl, ⟨nd, rfl⟩⟩; refine ⟨_, rfl, ?_⟩) | (go_at_call 38; (with_reducible refine (spec_l1In.calls (rd l0_1 x30_2) 0 2 true _ A22.out).mono ?_); rintro e w' ⟨rfl, ⟨nd, rfl⟩⟩))
                                go_meet
                                case rel => exact ⟨_, (((rd l0_0 x30_2) != 3)), (by first | rfl | (simp; done) | (simp [*]; done)), H', ⟨by have := HJ1.out; have := HK2.out; first | omega | exact Nat.le_refl _⟩, ⟨by (with_reducible repeat (first | refine blk_drewN ?_ _ | refine blk_drew ?_ | refine blk_alloc ?_ _)); exact BK105.out⟩, ⟨by repeat (first | (with_reducible first | exact HB.out | apply below_alloc | apply pw_below_drewN | apply below_drew1 | refine below_set ?_ GE105.out) | exact HB.out)⟩⟩
                              · rw [if_neg c26] at H
                                have c26b0 : ((rd l0_1 x30_2) == 2) = false := beq_eq_false_iff_ne.mpr c26
                                have c26b1 : ((rd l0_1 x30_2) != 2) = true := bne_iff_ne.mpr c26
                                have H' := Aside0.mk H
                                clear H
                                go_wp2_with (first | ((with_reducible refine gate_callee (f := 38) rfl ?_); refine goesL_ (some 44) rfl rfl Try.func38 (by kernel_rfl) rfl #[.int .i64 (rd l0_0 x30_2), .int .i64 0, .int .i64 3] rfl (by (try simp only [List.map_toArray, List.map_cons, List.map_nil]); first | done | rfl | (simp only [List.length_drop, List.length_take]; rfl)) ?_; (with_reducible refine (spec_l1In.calls (rd l0_0 x30_2) 0 3 true _ A20.out).mono ?_); rintro e w' ⟨rfl, ⟨nd, rfl⟩⟩; refine ⟨_, rfl, ?_⟩) | (go_at_call 38; (with_reducible refine (spec_l1In.calls (rd l0_1 x30_2) 0 2 true _ A22.out).mono ?_); rintro e w' ⟨rfl, ⟨nd, rfl⟩⟩))
                                go_meet
                                case rel => exact ⟨_, (false), (by first | rfl | (simp; done) | (simp [*]; done)), H', ⟨by have := HJ1.out; have := HK2.out; first | omega | exact Nat.le_refl _⟩, ⟨by (with_reducible repeat (first | refine blk_drewN ?_ _ | refine blk_drew ?_ | refine blk_alloc ?_ _)); exact BK105.out⟩, ⟨by repeat (first | (with_reducible first | exact HB.out | apply below_alloc | apply pw_below_drewN | apply below_drew1 | refine below_set ?_ GE105.out) | exact HB.out)⟩⟩
                          · rw [if_neg c24] at H
                            have c24b0 : ((rd l0_1 x30_2) == 1) = false := beq_eq_false_iff_ne.mpr c24
                            have c24b1 : ((rd l0_1 x30_2) != 1) = true := bne_iff_ne.mpr c24
                            (first | rw [c24b0] | (simp only [i64_w, i32_w]; rw [c24b0]) | skip)
                            by_cases c27 : (rd l0_1 x30_2) = 2
                            · rw [if_pos c27] at H
                              have c27b0 : ((rd l0_1 x30_2) == 2) = true := beq_iff_eq.mpr c27
                              have c27b1 : ((rd l0_1 x30_2) != 2) = false := bne_eq_false_iff_eq.mpr c27
                              clear c27
                              have H' := Aside0.mk H
                              clear H
                              go_wp2_with (first | ((with_reducible refine gate_callee (f := 38) rfl ?_); refine goesL_ (some 44) rfl rfl Try.func38 (by kernel_rfl) rfl #[.int .i64 (rd l0_0 x30_2), .int .i64 0, .int .i64 3] rfl (by (try simp only [List.map_toArray, List.map_cons, List.map_nil]); first | done | rfl | (simp only [List.length_drop, List.length_take]; rfl)) ?_; (with_reducible refine (spec_l1In.calls (rd l0_0 x30_2) 0 3 true _ A20.out).mono ?_); rintro e w' ⟨rfl, ⟨nd, rfl⟩⟩; refine ⟨_, rfl, ?_⟩) | (go_at_call 38; (with_reducible refine (spec_l1In.calls (rd l0_1 x30_2) 0 2 true _ A22.out).mono ?_); rintro e w' ⟨rfl, ⟨nd, rfl⟩⟩))
                              go_meet
                              case rel => exact ⟨_, (((rd l0_0 x30_2) != 3)), (by first | rfl | (simp; done) | (simp [*]; done)), H', ⟨by have := HJ1.out; have := HK2.out; first | omega | exact Nat.le_refl _⟩, ⟨by (with_reducible repeat (first | refine blk_drewN ?_ _ | refine blk_drew ?_ | refine blk_alloc ?_ _)); exact BK105.out⟩, ⟨by repeat (first | (with_reducible first | exact HB.out | apply below_alloc | apply pw_below_drewN | apply below_drew1 | refine below_set ?_ GE105.out) | exact HB.out)⟩⟩
                            · rw [if_neg c27] at H
                              have c27b0 : ((rd l0_1 x30_2) == 2) = false := beq_eq_false_iff_ne.mpr c27
                              have c27b1 : ((rd l0_1 x30_2) != 2) = true := bne_iff_ne.mpr c27
                              have H' := Aside0.mk H
                              clear H
                              go_wp2_with (first | ((with_reducible refine gate_callee (f := 38) rfl ?_); refine goesL_ (some 44) rfl rfl Try.func38 (by kernel_rfl) rfl #[.int .i64 (rd l0_0 x30_2), .int .i64 0, .int .i64 3] rfl (by (try simp only [List.map_toArray, List.map_cons, List.map_nil]); first | done | rfl | (simp only [List.length_drop, List.length_take]; rfl)) ?_; (with_reducible refine (spec_l1In.calls (rd l0_0 x30_2) 0 3 true _ A20.out).mono ?_); rintro e w' ⟨rfl, ⟨nd, rfl⟩⟩; refine ⟨_, rfl, ?_⟩) | (go_at_call 38; (with_reducible refine (spec_l1In.calls (rd l0_1 x30_2) 0 2 true _ A22.out).mono ?_); rintro e w' ⟨rfl, ⟨nd, rfl⟩⟩))
                              go_meet
                              case rel => exact ⟨_, (false), (by first | rfl | (simp; done) | (simp [*]; done)), H', ⟨by have := HJ1.out; have := HK2.out; first | omega | exact Nat.le_refl _⟩, ⟨by (with_reducible repeat (first | refine blk_drewN ?_ _ | refine blk_drew ?_ | refine blk_alloc ?_ _)); exact BK105.out⟩, ⟨by repeat (first | (with_reducible first | exact HB.out | apply below_alloc | apply pw_below_drewN | apply below_drew1 | refine below_set ?_ GE105.out) | exact HB.out)⟩⟩
                        · replace c23 := Bool.eq_false_iff.mpr c23
                          subst c23
                          have H1 : (spec_GoodCommit.j2 k2 (rd l0_0 x30_2) (rd l0_1 x30_2) t110 l0_0 (l0_0.length : Int) x30_2 true l0_0 l0_1 a0_2) = some r := by rw [if_neg (show ¬ (false = true) by decide)] at H; exact H
                          clear H
                          have H := H1
                          clear H1
                          have H' := Aside0.mk H
                          clear H
                          go_wp2_with (first | ((with_reducible refine gate_callee (f := 38) rfl ?_); refine goesL_ (some 44) rfl rfl Try.func38 (by kernel_rfl) rfl #[.int .i64 (rd l0_0 x30_2), .int .i64 0, .int .i64 3] rfl (by (try simp only [List.map_toArray, List.map_cons, List.map_nil]); first | done | rfl | (simp only [List.length_drop, List.length_take]; rfl)) ?_; (with_reducible refine (spec_l1In.calls (rd l0_0 x30_2) 0 3 true _ A20.out).mono ?_); rintro e w' ⟨rfl, ⟨nd, rfl⟩⟩; refine ⟨_, rfl, ?_⟩) | (go_at_call 38; (with_reducible refine (spec_l1In.calls (rd l0_1 x30_2) 0 2 false _ A22.out).mono ?_); rintro e w' ⟨rfl, ⟨nd, rfl⟩⟩))
                          go_meet
                          case rel => exact ⟨_, (true), (by first | rfl | (simp; done) | (simp [*]; done)), H', ⟨by have := HJ1.out; have := HK2.out; first | omega | exact Nat.le_refl _⟩, ⟨by (with_reducible repeat (first | refine blk_drewN ?_ _ | refine blk_drew ?_ | refine blk_alloc ?_ _)); exact BK105.out⟩, ⟨by repeat (first | (with_reducible first | exact HB.out | apply below_alloc | apply pw_below_drewN | apply below_drew1 | refine below_set ?_ GE105.out) | exact HB.out)⟩⟩
                      · replace c21 := Bool.eq_false_iff.mpr c21
                        subst c21
                        have H1 : (spec_GoodCommit.j2 k2 (rd l0_0 x30_2) (rd l0_1 x30_2) t110 l0_0 (l0_0.length : Int) x30_2 true l0_0 l0_1 a0_2) = some r := by rw [if_neg (show ¬ (false = true) by decide)] at H; exact H
                        clear H
                        have H := H1
                        clear H1
                        have H' := Aside0.mk H
                        clear H
                        go_wp2_with (first | ((with_reducible refine gate_callee (f := 38) rfl ?_); refine goesL_ (some 44) rfl rfl Try.func38 (by kernel_rfl) rfl #[.int .i64 (rd l0_0 x30_2), .int .i64 0, .int .i64 3] rfl (by (try simp only [List.map_toArray, List.map_cons, List.map_nil]); first | done | rfl | (simp only [List.length_drop, List.length_take]; rfl)) ?_; (with_reducible refine (spec_l1In.calls (rd l0_0 x30_2) 0 3 false _ A20.out).mono ?_); rintro e w' ⟨rfl, ⟨nd, rfl⟩⟩; refine ⟨_, rfl, ?_⟩))
                        go_meet
                        case rel => exact ⟨_, (true), (by first | rfl | (simp; done) | (simp [*]; done)), H', ⟨by have := HJ1.out; have := HK2.out; first | omega | exact Nat.le_refl _⟩, ⟨by (with_reducible repeat (first | refine blk_drewN ?_ _ | refine blk_drew ?_ | refine blk_alloc ?_ _)); exact BK105.out⟩, ⟨by repeat (first | (with_reducible first | exact HB.out | apply below_alloc | apply pw_below_drewN | apply below_drew1 | refine below_set ?_ GE105.out) | exact HB.out)⟩⟩
                    case rest =>
                      clear HC18
                      try clear c1
                      try clear p1
                      try clear q1
                      try clear hx1
                      try clear c2
                      try clear p2
                      try clear c3
                      try clear c5
                      try clear c6
                      try clear c6b0
                      try clear c6b1
                      try clear c6b2
                      try clear p10
                      try clear q10
                      try clear hx10
                      try clear c11
                      try clear c13
                      try clear c13b0
                      try clear c14
                      try clear c14b0
                      try clear c15
                      try clear c15b0
                      try clear c16
                      try clear c16b0
                      try clear c21
                      try clear c22
                      try clear c23
                      try clear c24
                      try clear c24b0
                      try clear c24b1
                      try clear c25
                      try clear c25b0
                      try clear c25b1
                      try clear c26
                      try clear c26b0
                      try clear c26b1
                      try clear c27
                      try clear c27b0
                      try clear c27b1
                      try clear hcz10_0
                      try clear hcz10_1
                      try clear hcz10_2
                      try clear hcz12_0
                      try clear hcz12_1
                      try clear hcz12_2
                      try clear hcz19_0
                      try clear hcz19_1
                      try clear hcz19_2
                      try clear hcz8_0
                      try clear hcz8_1
                      try clear hcz8_2
                      try clear hcz9_0
                      try clear hcz9_1
                      try clear hcz9_2
                      try clear hfz10_0
                      try clear hfz10_1
                      try clear hfz10_2
                      try clear hfz12_0
                      try clear hfz12_1
                      try clear hfz12_2
                      try clear hfz19_0
                      try clear hfz19_1
                      try clear hfz19_2
                      try clear hfz8_0
                      try clear hfz8_1
                      try clear hfz8_2
                      try clear hfz9_0
                      try clear hfz9_1
                      try clear hfz9_2
                      try clear hx108_0
                      try clear hx109_0
                      try clear p108
                      try clear p109
                      try clear p2
                      try clear q108
                      try clear q109
                      obtain ⟨kq, x66_17, rfl, HA, HJ17, BK105, HB⟩ := hcut
                      cases kq with
                      | zero => exact absurd HA.out (by simp [spec_GoodCommit.j2])
                      | succ kj17 =>
                        have H := HA.out
                        clear HA
                        simp only [spec_GoodCommit.j2] at H
                        by_cases c28 : x66_17 = true
                        · subst c28
                          have H1 : (some false) = some r := by rw [if_pos rfl] at H; exact H
                          clear H
                          have H := H1
                          clear H1
                          obtain rfl := Option.some.inj H
                          go_wp2
                          go_ret
                          exact ⟨by first | rfl | (simp [errW_none, errW_some] <;> rfl) | (simp [*, errW_none, errW_some] <;> rfl), by repeat (first | (with_reducible first | exact HB.out | apply below_alloc | apply pw_below_drewN | apply below_drew1 | refine below_set ?_ GE105.out) | exact HB.out)⟩
                        · replace c28 := Bool.eq_false_iff.mpr c28
                          subst c28
                          have H1 : (if (rd l0_0 x30_2) = 2 then (if a0_2 = 1 then (if (rd l0_0 x30_2) = 3 then (some false) else (if (rd l0_1 x30_2) = 1 then (spec_GoodCommit.l0 kj17 l0_0 (l0_0.length : Int) (wrap64 (x30_2 + 1)) l0_0 l0_1 a0_2) else (some false))) else (some false)) else (if (rd l0_0 x30_2) = 3 then (if a0_2 = 1 then (some false) else (if a0_2 = 0 then (if t110 = true then (spec_GoodCommit.l0 kj17 l0_0 (l0_0.length : Int) (wrap64 (x30_2 + 1)) l0_0 l0_1 a0_2) else (some false)) else (spec_GoodCommit.l0 kj17 l0_0 (l0_0.length : Int) (wrap64 (x30_2 + 1)) l0_0 l0_1 a0_2))) else (if a0_2 = 1 then (if (rd l0_1 x30_2) = 1 then (spec_GoodCommit.l0 kj17 l0_0 (l0_0.length : Int) (wrap64 (x30_2 + 1)) l0_0 l0_1 a0_2) else (some false)) else (spec_GoodCommit.l0 kj17 l0_0 (l0_0.length : Int) (wrap64 (x30_2 + 1)) l0_0 l0_1 a0_2)))) = some r := by rw [if_neg (show ¬ (false = true) by decide)] at H; exact H
                          clear H
                          have H := H1
                          clear H1
                          by_cases c29 : (rd l0_0 x30_2) = 2
                          · rw [if_pos c29] at H
                            have c29b0 : ((rd l0_0 x30_2) == 2) = true := beq_iff_eq.mpr c29
                            have c29b1 : ((rd l0_0 x30_2) != 2) = false := bne_eq_false_iff_eq.mpr c29
                            clear c29
                            by_cases c30 : a0_2 = 1
                            · rw [if_pos c30] at H
                              have c30b0 : (a0_2 == 1) = true := beq_iff_eq.mpr c30
                              have c30b1 : (a0_2 != 1) = false := bne_eq_false_iff_eq.mpr c30
                              clear c30
                              by_cases c31 : (rd l0_0 x30_2) = 3
                              · rw [if_pos c31] at H
                                have c31b0 : ((rd l0_0 x30_2) == 3) = true := beq_iff_eq.mpr c31
                                have c31b1 : ((rd l0_0 x30_2) != 3) = false := bne_eq_false_iff_eq.mpr c31
                                clear c31
                                obtain rfl := Option.some.inj H
                                have hcz32_0 : wc.cell? ⟨gb105, 0, none⟩ = some (.slice (some ad108) l0_0.length c0_0) := (blk_cell BK105.out 0).trans rfl
                                have hcz32_1 : wc.cell? ⟨gb105, 1, none⟩ = some (.slice (some ad109) l0_1.length c0_1) := (blk_cell BK105.out 1).trans rfl
                                have hcz32_2 : wc.cell? ⟨gb105, 2, none⟩ = some (.int .i64 a0_2) := (blk_cell BK105.out 2).trans rfl
                                have hfz32_0 := blk_frozen BK105.out 0
                                have hfz32_1 := blk_frozen BK105.out 1
                                have hfz32_2 := blk_frozen BK105.out 2
                                go_wp2
                                go_ret
                                exact ⟨by first | rfl | (simp [errW_none, errW_some] <;> rfl) | (simp [*, errW_none, errW_some] <;> rfl), by repeat (first | (with_reducible first | exact HB.out | apply below_alloc | apply pw_below_drewN | apply below_drew1 | refine below_set ?_ GE105.out) | exact HB.out)⟩
                              · rw [if_neg c31] at H
                                have c31b0 : ((rd l0_0 x30_2) == 3) = false := beq_eq_false_iff_ne.mpr c31
                                have c31b1 : ((rd l0_0 x30_2) != 3) = true := bne_iff_ne.mpr c31
                                by_cases c33 : (rd l0_1 x30_2) = 1
                                · rw [if_pos c33] at H
                                  have c33b0 : ((rd l0_1 x30_2) == 1) = true := beq_iff_eq.mpr c33
                                  have c33b1 : ((rd l0_1 x30_2) != 1) = false := bne_eq_false_iff_eq.mpr c33
                                  clear c33
                                  have H' := Aside0.mk H
                                  clear H
                                  have hcz34_0 : wc.cell? ⟨gb105, 0, none⟩ = some (.slice (some ad108) l0_0.length c0_0) := (blk_cell BK105.out 0).trans rfl
                                  have hcz34_1 : wc.cell? ⟨gb105, 1, none⟩ = some (.slice (some ad109) l0_1.length c0_1) := (blk_cell BK105.out 1).trans rfl
                                  have hcz34_2 : wc.cell? ⟨gb105, 2, none⟩ = some (.int .i64 a0_2) := (blk_cell BK105.out 2).trans rfl
                                  have hfz34_0 := blk_frozen BK105.out 0
                                  have hfz34_1 := blk_frozen BK105.out 1
                                  have hfz34_2 := blk_frozen BK105.out 2
                                  go_wp2
                                  go_roundg kj17
                                  case measure => have := HJ1.out; have := HK2.out; have := HJ17.out; omega
                                  case rel => exact ⟨(wrap64 (x30_2 + 1)), (by first | rfl | (simp; done) | (simp [*]; done)), H', ⟨by have := HJ1.out; have := HK2.out; have := HJ17.out; omega⟩, ⟨by (with_reducible repeat (first | refine blk_drewN ?_ _ | refine blk_drew ?_ | refine blk_alloc ?_ _)); exact BK105.out⟩, ⟨by repeat (first | (with_reducible first | exact HB.out | apply below_alloc | apply pw_below_drewN | apply below_drew1 | refine below_set ?_ GE105.out) | exact HB.out)⟩⟩
                                · rw [if_neg c33] at H
                                  have c33b0 : ((rd l0_1 x30_2) == 1) = false := beq_eq_false_iff_ne.mpr c33
                                  have c33b1 : ((rd l0_1 x30_2) != 1) = true := bne_iff_ne.mpr c33
                                  obtain rfl := Option.some.inj H
                                  have hcz35_0 : wc.cell? ⟨gb105, 0, none⟩ = some (.slice (some ad108) l0_0.length c0_0) := (blk_cell BK105.out 0).trans rfl
                                  have hcz35_1 : wc.cell? ⟨gb105, 1, none⟩ = some (.slice (some ad109) l0_1.length c0_1) := (blk_cell BK105.out 1).trans rfl
                                  have hcz35_2 : wc.cell? ⟨gb105, 2, none⟩ = some (.int .i64 a0_2) := (blk_cell BK105.out 2).trans rfl
                                  have hfz35_0 := blk_frozen BK105.out 0
                                  have hfz35_1 := blk_frozen BK105.out 1
                                  have hfz35_2 := blk_frozen BK105.out 2
                                  go_wp2
                                  go_ret
                                  exact ⟨by first | rfl | (simp [errW_none, errW_some] <;> rfl) | (simp [*, errW_none, errW_some] <;> rfl), by repeat (first | (with_reducible first | exact HB.out | apply below_alloc | apply pw_below_drewN | apply below_drew1 | refine below_set ?_ GE105.out) | exact HB.out)⟩
                            · rw [if_neg c30] at H
                              have c30b0 : (a0_2 == 1) = false := beq_eq_false_iff_ne.mpr c30
                              have c30b1 : (a0_2 != 1) = true := bne_iff_ne.mpr c30
                              obtain rfl := Option.some.inj H
                              have hcz36_0 : wc.cell? ⟨gb105, 0, none⟩ = some (.slice (some ad108) l0_0.length c0_0) := (blk_cell BK105.out 0).trans rfl
                              have hcz36_1 : wc.cell? ⟨gb105, 1, none⟩ = some (.slice (some ad109) l0_1.length c0_1) := (blk_cell BK105.out 1).trans rfl
                              have hcz36_2 : wc.cell? ⟨gb105, 2, none⟩ = some (.int .i64 a0_2) := (blk_cell BK105.out 2).trans rfl
                              have hfz36_0 := blk_frozen BK105.out 0
                              have hfz36_1 := blk_frozen BK105.out 1
                              have hfz36_2 := blk_frozen BK105.out 2
                              go_wp2
                              go_ret
                              exact ⟨by first | rfl | (simp [errW_none, errW_some] <;> rfl) | (simp [*, errW_none, errW_some] <;> rfl), by repeat (first | (with_reducible first | exact HB.out | apply below_alloc | apply pw_below_drewN | apply below_drew1 | refine below_set ?_ GE105.out) | exact HB.out)⟩
                          · rw [if_neg c29] at H
                            have c29b0 : ((rd l0_0 x30_2) == 2) = false := beq_eq_false_iff_ne.mpr c29
                            have c29b1 : ((rd l0_0 x30_2) != 2) = true := bne_iff_ne.mpr c29
                            by_cases c37 : (rd l0_0 x30_2) = 3
                            · rw [if_pos c37] at H
                              have c37b0 : ((rd l0_0 x30_2) == 3) = true := beq_iff_eq.mpr c37
                              have c37b1 : ((rd l0_0 x30_2) != 3) = false := bne_eq_false_iff_eq.mpr c37
                              clear c37
                              by_cases c38 : a0_2 = 1
                              · rw [if_pos c38] at H
                                have c38b0 : (a0_2 == 1) = true := beq_iff_eq.mpr c38
                                have c38b1 : (a0_2 != 1) = false := bne_eq_false_iff_eq.mpr c38
                                clear c38
                                obtain rfl := Option.some.inj H
                                have hcz39_0 : wc.cell? ⟨gb105, 0, none⟩ = some (.slice (some ad108) l0_0.length c0_0) := (blk_cell BK105.out 0).trans rfl
                                have hcz39_1 : wc.cell? ⟨gb105, 1, none⟩ = some (.slice (some ad109) l0_1.length c0_1) := (blk_cell BK105.out 1).trans rfl
                                have hcz39_2 : wc.cell? ⟨gb105, 2, none⟩ = some (.int .i64 a0_2) := (blk_cell BK105.out 2).trans rfl
                                have hfz39_0 := blk_frozen BK105.out 0
                                have hfz39_1 := blk_frozen BK105.out 1
                                have hfz39_2 := blk_frozen BK105.out 2
                                go_wp2
                                go_ret
                                exact ⟨by first | rfl | (simp [errW_none, errW_some] <;> rfl) | (simp [*, errW_none, errW_some] <;> rfl), by repeat (first | (with_reducible first | exact HB.out | apply below_alloc | apply pw_below_drewN | apply below_drew1 | refine below_set ?_ GE105.out) | exact HB.out)⟩
                              · rw [if_neg c38] at H
                                have c38b0 : (a0_2 == 1) = false := beq_eq_false_iff_ne.mpr c38
                                have c38b1 : (a0_2 != 1) = true := bne_iff_ne.mpr c38
                                by_cases c40 : a0_2 = 0
                                · rw [if_pos c40] at H
                                  have c40b0 : (a0_2 == 0) = true := beq_iff_eq.mpr c40
                                  have c40b1 : (a0_2 != 0) = false := bne_eq_false_iff_eq.mpr c40
                                  clear c40
                                  by_cases c41 : t110 = true
                                  · subst c41
                                    have H1 : (spec_GoodCommit.l0 kj17 l0_0 (l0_0.length : Int) (wrap64 (x30_2 + 1)) l0_0 l0_1 a0_2) = some r := by rw [if_pos rfl] at H; exact H
                                    clear H
                                    have H := H1
                                    clear H1
                                    have H' := Aside0.mk H
                                    clear H
                                    have hcz42_0 : wc.cell? ⟨gb105, 0, none⟩ = some (.slice (some ad108) l0_0.length c0_0) := (blk_cell BK105.out 0).trans rfl
                                    have hcz42_1 : wc.cell? ⟨gb105, 1, none⟩ = some (.slice (some ad109) l0_1.length c0_1) := (blk_cell BK105.out 1).trans rfl
                                    have hcz42_2 : wc.cell? ⟨gb105, 2, none⟩ = some (.int .i64 a0_2) := (blk_cell BK105.out 2).trans rfl
                                    have hfz42_0 := blk_frozen BK105.out 0
                                    have hfz42_1 := blk_frozen BK105.out 1
                                    have hfz42_2 := blk_frozen BK105.out 2
                                    go_wp2
                                    go_roundg kj17
                                    case measure => have := HJ1.out; have := HK2.out; have := HJ17.out; omega
                                    case rel => exact ⟨(wrap64 (x30_2 + 1)), (by first | rfl | (simp; done) | (simp [*]; done)), H', ⟨by have := HJ1.out; have := HK2.out; have := HJ17.out; omega⟩, ⟨by (with_reducible repeat (first | refine blk_drewN ?_ _ | refine blk_drew ?_ | refine blk_alloc ?_ _)); exact BK105.out⟩, ⟨by repeat (first | (with_reducible first | exact HB.out | apply below_alloc | apply pw_below_drewN | apply below_drew1 | refine below_set ?_ GE105.out) | exact HB.out)⟩⟩
                                  · replace c41 := Bool.eq_false_iff.mpr c41
                                    subst c41
                                    have H1 : (some false) = some r := by rw [if_neg (show ¬ (false = true) by decide)] at H; exact H
                                    clear H
                                    have H := H1
                                    clear H1
                                    obtain rfl := Option.some.inj H
                                    have hcz43_0 : wc.cell? ⟨gb105, 0, none⟩ = some (.slice (some ad108) l0_0.length c0_0) := (blk_cell BK105.out 0).trans rfl
                                    have hcz43_1 : wc.cell? ⟨gb105, 1, none⟩ = some (.slice (some ad109) l0_1.length c0_1) := (blk_cell BK105.out 1).trans rfl
                                    have hcz43_2 : wc.cell? ⟨gb105, 2, none⟩ = some (.int .i64 a0_2) := (blk_cell BK105.out 2).trans rfl
                                    have hfz43_0 := blk_frozen BK105.out 0
                                    have hfz43_1 := blk_frozen BK105.out 1
                                    have hfz43_2 := blk_frozen BK105.out 2
                                    go_wp2
                                    go_ret
                                    exact ⟨by first | rfl | (simp [errW_none, errW_some] <;> rfl) | (simp [*, errW_none, errW_some] <;> rfl), by repeat (first | (with_reducible first | exact HB.out | apply below_alloc | apply pw_below_drewN | apply below_drew1 | refine below_set ?_ GE105.out) | exact HB.out)⟩
                                · rw [if_neg c40] at H
                                  have c40b0 : (a0_2 == 0) = false := beq_eq_false_iff_ne.mpr c40
                                  have c40b1 : (a0_2 != 0) = true := bne_iff_ne.mpr c40
                                  have H' := Aside0.mk H
                                  clear H
                                  have hcz44_0 : wc.cell? ⟨gb105, 0, none⟩ = some (.slice (some ad108) l0_0.length c0_0) := (blk_cell BK105.out 0).trans rfl
                                  have hcz44_1 : wc.cell? ⟨gb105, 1, none⟩ = some (.slice (some ad109) l0_1.length c0_1) := (blk_cell BK105.out 1).trans rfl
                                  have hcz44_2 : wc.cell? ⟨gb105, 2, none⟩ = some (.int .i64 a0_2) := (blk_cell BK105.out 2).trans rfl
                                  have hfz44_0 := blk_frozen BK105.out 0
                                  have hfz44_1 := blk_frozen BK105.out 1
                                  have hfz44_2 := blk_frozen BK105.out 2
                                  go_wp2
                                  go_roundg kj17
                                  case measure => have := HJ1.out; have := HK2.out; have := HJ17.out; omega
                                  case rel => exact ⟨(wrap64 (x30_2 + 1)), (by first | rfl | (simp; done) | (simp [*]; done)), H', ⟨by have := HJ1.out; have := HK2.out; have := HJ17.out; omega⟩, ⟨by (with_reducible repeat (first | refine blk_drewN ?_ _ | refine blk_drew ?_ | refine blk_alloc ?_ _)); exact BK105.out⟩, ⟨by repeat (first | (with_reducible first | exact HB.out | apply below_alloc | apply pw_below_drewN | apply below_drew1 | refine below_set ?_ GE105.out) | exact HB.out)⟩⟩
                            · rw [if_neg c37] at H
                              have c37b0 : ((rd l0_0 x30_2) == 3) = false := beq_eq_false_iff_ne.mpr c37
                              have c37b1 : ((rd l0_0 x30_2) != 3) = true := bne_iff_ne.mpr c37
                              by_cases c45 : a0_2 = 1
                              · rw [if_pos c45] at H
                                have c45b0 : (a0_2 == 1) = true := beq_iff_eq.mpr c45
                                have c45b1 : (a0_2 != 1) = false := bne_eq_false_iff_eq.mpr c45
                                clear c45
                                by_cases c46 : (rd l0_1 x30_2) = 1
                                · rw [if_pos c46] at H
                                  have c46b0 : ((rd l0_1 x30_2) == 1) = true := beq_iff_eq.mpr c46
                                  have c46b1 : ((rd l0_1 x30_2) != 1) = false := bne_eq_false_iff_eq.mpr c46
                                  clear c46
                                  have H' := Aside0.mk H
                                  clear H
                                  have hcz47_0 : wc.cell? ⟨gb105, 0, none⟩ = some (.slice (some ad108) l0_0.length c0_0) := (blk_cell BK105.out 0).trans rfl
                                  have hcz47_1 : wc.cell? ⟨gb105, 1, none⟩ = some (.slice (some ad109) l0_1.length c0_1) := (blk_cell BK105.out 1).trans rfl
                                  have hcz47_2 : wc.cell? ⟨gb105, 2, none⟩ = some (.int .i64 a0_2) := (blk_cell BK105.out 2).trans rfl
                                  have hfz47_0 := blk_frozen BK105.out 0
                                  have hfz47_1 := blk_frozen BK105.out 1
                                  have hfz47_2 := blk_frozen BK105.out 2
                                  go_wp2
                                  go_roundg kj17
                                  case measure => have := HJ1.out; have := HK2.out; have := HJ17.out; omega
                                  case rel => exact ⟨(wrap64 (x30_2 + 1)), (by first | rfl | (simp; done) | (simp [*]; done)), H', ⟨by have := HJ1.out; have := HK2.out; have := HJ17.out; omega⟩, ⟨by (with_reducible repeat (first | refine blk_drewN ?_ _ | refine blk_drew ?_ | refine blk_alloc ?_ _)); exact BK105.out⟩, ⟨by repeat (first | (with_reducible first | exact HB.out | apply below_alloc | apply pw_below_drewN | apply below_drew1 | refine below_set ?_ GE105.out) | exact HB.out)⟩⟩
                                · rw [if_neg c46] at H
                                  have c46b0 : ((rd l0_1 x30_2) == 1) = false := beq_eq_false_iff_ne.mpr c46
                                  have c46b1 : ((rd l0_1 x30_2) != 1) = true := bne_iff_ne.mpr c46
                                  obtain rfl := Option.some.inj H
                                  have hcz48_0 : wc.cell? ⟨gb105, 0, none⟩ = some (.slice (some ad108) l0_0.length c0_0) := (blk_cell BK105.out 0).trans rfl
                                  have hcz48_1 : wc.cell? ⟨gb105, 1, none⟩ = some (.slice (some ad109) l0_1.length c0_1) := (blk_cell BK105.out 1).trans rfl
                                  have hcz48_2 : wc.cell? ⟨gb105, 2, none⟩ = some (.int .i64 a0_2) := (blk_cell BK105.out 2).trans rfl
                                  have hfz48_0 := blk_frozen BK105.out 0
                                  have hfz48_1 := blk_frozen BK105.out 1
                                  have hfz48_2 := blk_frozen BK105.out 2
                                  go_wp2
                                  go_ret
                                  exact ⟨by first | rfl | (simp [errW_none, errW_some] <;> rfl) | (simp [*, errW_none, errW_some] <;> rfl), by repeat (first | (with_reducible first | exact HB.out | apply below_alloc | apply pw_below_drewN | apply below_drew1 | refine below_set ?_ GE105.out) | exact HB.out)⟩
                              · rw [if_neg c45] at H
                                have c45b0 : (a0_2 == 1) = false := beq_eq_false_iff_ne.mpr c45
                                have c45b1 : (a0_2 != 1) = true := bne_iff_ne.mpr c45
                                have H' := Aside0.mk H
                                clear H
                                have hcz49_0 : wc.cell? ⟨gb105, 0, none⟩ = some (.slice (some ad108) l0_0.length c0_0) := (blk_cell BK105.out 0).trans rfl
                                have hcz49_1 : wc.cell? ⟨gb105, 1, none⟩ = some (.slice (some ad109) l0_1.length c0_1) := (blk_cell BK105.out 1).trans rfl
                                have hcz49_2 : wc.cell? ⟨gb105, 2, none⟩ = some (.int .i64 a0_2) := (blk_cell BK105.out 2).trans rfl
                                have hfz49_0 := blk_frozen BK105.out 0
                                have hfz49_1 := blk_frozen BK105.out 1
                                have hfz49_2 := blk_frozen BK105.out 2
                                go_wp2
                                go_roundg kj17
                                case measure => have := HJ1.out; have := HK2.out; have := HJ17.out; omega
                                case rel => exact ⟨(wrap64 (x30_2 + 1)), (by first | rfl | (simp; done) | (simp [*]; done)), H', ⟨by have := HJ1.out; have := HK2.out; have := HJ17.out; omega⟩, ⟨by (with_reducible repeat (first | refine blk_drewN ?_ _ | refine blk_drew ?_ | refine blk_alloc ?_ _)); exact BK105.out⟩, ⟨by repeat (first | (with_reducible first | exact HB.out | apply below_alloc | apply pw_below_drewN | apply below_drew1 | refine below_set ?_ GE105.out) | exact HB.out)⟩⟩
                  · rw [if_neg c16] at H
                    exact absurd H (by simp)
                · rw [if_neg c15] at H
                  exact absurd H (by simp)
              · rw [if_neg c14] at H
                exact absurd H (by simp)
            · rw [if_neg c13] at H
              have c13b0 : decide (x30_2 < (l0_0.length : Int)) = false := decide_eq_false c13
              clear c13
              obtain rfl := Option.some.inj H
              go_wp2
              go_ret
              exact ⟨by first | rfl | (simp [errW_none, errW_some] <;> rfl) | (simp [*, errW_none, errW_some] <;> rfl), by repeat (first | (with_reducible first | exact HB.out | apply below_alloc | apply pw_below_drewN | apply below_drew1 | refine below_set ?_ GE105.out) | exact HB.out)⟩

/-! ### spec_l1All: function 49 -/
def spec_l1All.l0 : Nat → Int → Int → List Int → Int → Int → Option (Bool)
  | 0, _, _, _, _, _ => none
  | k + 1, x1, x2, x9, x10, x11 => if x11 < x10 then (if 0 ≤ x11 then (if x11 < (x9.length : Int) then ((spec_l1In.f (rd x9 x11) x1 x2).bind fun t114 => (if t114 = true then (spec_l1All.l0 k x1 x2 x9 x10 (wrap64 (x11 + 1))) else (some false))) else (none)) else (none)) else (some true)
def spec_l1All.f (k : Nat) (l0 : List Int) (a1 : Int) (a2 : Int) : Option (Bool) := spec_l1All.l0 k a1 a2 l0 (l0.length : Int) 0
theorem spec_l1All.mono_l : ∀ k, (∀ y0 y1 y2 y3 y4, LeO (spec_l1All.l0 k y0 y1 y2 y3 y4) (spec_l1All.l0 (k + 1) y0 y1 y2 y3 y4))
  | 0 => fun _ _ _ _ _ r h => by simp [spec_l1All.l0] at h
  | k + 1 => by
    have ih0 := spec_l1All.mono_l k
    · intro y0 y1 y2 y3 y4
      unfold spec_l1All.l0
      repeat' first
      | (with_reducible exact ih0 _ _ _ _ _)
      | (with_reducible exact LeO.refl _)
      | (with_reducible exact LeO.none _)
      | (with_reducible refine LeO.ite ?_ ?_)
      | (with_reducible refine LeO.bind ?_ (fun _ => ?_))
      | exact ih0 _ _ _ _ _
      | exact LeO.none _
      | refine LeO.ite ?_ ?_
      | refine LeO.bind ?_ (fun _ => ?_)
theorem spec_l1All.mono : ∀ a0 a1 a2 k, LeO (spec_l1All.f k a0 a1 a2) (spec_l1All.f (k + 1) a0 a1 a2) := by
  intro a0 a1 a2 k
  have ih0 := spec_l1All.mono_l k
  unfold spec_l1All.f
  repeat' first
      | (with_reducible exact ih0 _ _ _ _ _)
      | (with_reducible exact LeO.refl _)
      | (with_reducible exact LeO.none _)
      | (with_reducible refine LeO.ite ?_ ?_)
      | (with_reducible refine LeO.bind ?_ (fun _ => ?_))
      | exact ih0 _ _ _ _ _
      | exact LeO.none _
      | refine LeO.ite ?_ ?_
      | refine LeO.bind ?_ (fun _ => ?_)
set_option maxHeartbeats 8000000 in
set_option maxRecDepth 100000 in
theorem spec_l1All.calls (k : Nat) (A0 : Option Addr) (c0 : Nat) (l0 : List Int) (a1 : Int) (a2 : Int) (r : Bool) (w : World) (hr0 : Kd.C (Kd.int .i64) w A0 l0.length l0) (hc0 : l0.length ≤ c0) (h : spec_l1All.f k l0 a1 a2 = some r) :
    Calls Try.prog 49 #[.slice A0 l0.length c0, .int .i64 a1, .int .i64 a2] w fun e w' => e = .returned (.bool r) ∧ Drawn0 w w' := by
  have HR0 := Aside0.mk hr0
  have HC0 := Aside0.mk hc0
  clear hr0 hc0
  have H : (spec_l1All.l0 k a1 a2 l0 (l0.length : Int) 0) = some r := h
  clear h
  have H' := Aside0.mk H
  clear H
  go_enter Try.func49, Try.ntmps49
  go_wp2
  go_loopg [11] k (fun kq v11 w' => ∃ (x11_1 : Int), v11 = .int .i64 x11_1 ∧ Aside0 (spec_l1All.l0 kq a1 a2 l0 (l0.length : Int) x11_1 = some r) ∧ Aside0 (kq ≤ k) ∧ Drawn0 w w')
  case atStart => exact ⟨(0), (by first | rfl | (simp; done) | (simp [*]; done)), H', ⟨Nat.le_refl _⟩, by repeat (first | exact Drawn0.refl _ | apply Drawn0.step)⟩
  case round =>
    clear H'
    try clear p2
    obtain ⟨x11_1, rfl, HA, HK1, ⟨m1, rfl⟩⟩ := hrel
    cases gk with
    | zero => exact absurd HA.out (by simp [spec_l1All.l0])
    | succ k1 =>
      have H := HA.out
      clear HA
      simp only [spec_l1All.l0] at H
      by_cases c4 : x11_1 < (l0.length : Int)
      · rw [if_pos c4] at H
        have c4b0 : decide (x11_1 < (l0.length : Int)) = true := decide_eq_true c4
        clear c4
        by_cases c5 : 0 ≤ x11_1
        · rw [if_pos c5] at H
          have c5b0 : decide (0 ≤ x11_1) = true := decide_eq_true c5
          clear c5
          by_cases c6 : x11_1 < (l0.length : Int)
          · rw [if_pos c6] at H
            have c6b0 : decide (x11_1 < (l0.length : Int)) = true := decide_eq_true c6
            clear c6
            replace H := Option.bind_eq_some_iff.mp H
            obtain ⟨t114, A70, H⟩ := H
            replace H : (if t114 = true then (spec_l1All.l0 k1 a1 a2 l0 (l0.length : Int) (wrap64 (x11_1 + 1))) else (some false)) = some r := H
            have A7 := Aside0.mk A70
            clear A70
            by_cases c8 : t114 = true
            · subst c8
              have H1 : (spec_l1All.l0 k1 a1 a2 l0 (l0.length : Int) (wrap64 (x11_1 + 1))) = some r := by rw [if_pos rfl] at H; exact H
              clear H
              have H := H1
              clear H1
              have H' := Aside0.mk H
              clear H
              have p113 : 0 ≤ (x11_1 : Int) := of_decide_eq_true (by first | (with_reducible assumption) | assumption)
              have q113 : x11_1 < (l0.length : Int) := of_decide_eq_true (by first | (with_reducible assumption) | assumption)
              obtain ⟨ad113, e113, hx113_0⟩ := Kd.at_int HR0.out x11_1 p113 q113
              cases e113
              replace p113 := eq_true p113
              replace q113 := eq_true q113
              go_wp2_with (first | ((with_reducible refine gate_callee (f := 38) rfl ?_); refine goesL_ (some 18) rfl rfl Try.func38 (by kernel_rfl) rfl #[.int .i64 (rd l0 x11_1), .int .i64 a1, .int .i64 a2] rfl (by (try simp only [List.map_toArray, List.map_cons, List.map_nil]); first | done | rfl | (simp only [List.length_drop, List.length_take]; rfl)) ?_; (with_reducible refine (spec_l1In.calls (rd l0 x11_1) a1 a2 true _ A7.out).mono ?_); rintro e w' ⟨rfl, ⟨nd, rfl⟩⟩; refine ⟨_, rfl, ?_⟩))
              go_roundg k1
              case measure => have := HK1.out; omega
              case rel => exact ⟨(wrap64 (x11_1 + 1)), (by first | rfl | (simp; done) | (simp [*]; done)), H', ⟨by have := HK1.out; omega⟩, by repeat (first | exact Drawn0.refl _ | apply Drawn0.step)⟩
            · replace c8 := Bool.eq_false_iff.mpr c8
              subst c8
              have H1 : (some false) = some r := by rw [if_neg (show ¬ (false = true) by decide)] at H; exact H
              clear H
              have H := H1
              clear H1
              obtain rfl := Option.some.inj H
              have p113 : 0 ≤ (x11_1 : Int) := of_decide_eq_true (by first | (with_reducible assumption) | assumption)
              have q113 : x11_1 < (l0.length : Int) := of_decide_eq_true (by first | (with_reducible assumption) | assumption)
              obtain ⟨ad113, e113, hx113_0⟩ := Kd.at_int HR0.out x11_1 p113 q113
              cases e113
              replace p113 := eq_true p113
              replace q113 := eq_true q113
              go_wp2_with (first | ((with_reducible refine gate_callee (f := 38) rfl ?_); refine goesL_ (some 18) rfl rfl Try.func38 (by kernel_rfl) rfl #[.int .i64 (rd l0 x11_1), .int .i64 a1, .int .i64 a2] rfl (by (try simp only [List.map_toArray, List.map_cons, List.map_nil]); first | done | rfl | (simp only [List.length_drop, List.length_take]; rfl)) ?_; (with_reducible refine (spec_l1In.calls (rd l0 x11_1) a1 a2 false _ A7.out).mono ?_); rintro e w' ⟨rfl, ⟨nd, rfl⟩⟩; refine ⟨_, rfl, ?_⟩))
              go_ret
              exact ⟨by first | rfl | (simp; done) | (simp [*]; done), by repeat (first | exact Drawn0.refl _ | apply Drawn0.step)⟩
          · rw [if_neg c6] at H
            exact absurd H (by simp)
        · rw [if_neg c5] at H
          exact absurd H (by simp)
      · rw [if_neg c4] at H
        have c4b0 : decide (x11_1 < (l0.length : Int)) = false := decide_eq_false c4
        clear c4
        obtain rfl := Option.some.inj H
        go_wp2
        go_ret
        exact ⟨by first | rfl | (simp; done) | (simp [*]; done), by repeat (first | exact Drawn0.refl _ | apply Drawn0.step)⟩

end Go.Proofs.Ytjefmihaiaimlaa.PFnExactFinishCommit
