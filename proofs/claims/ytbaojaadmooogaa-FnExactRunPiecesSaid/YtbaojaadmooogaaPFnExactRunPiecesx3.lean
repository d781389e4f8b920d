import Derived.Test.YtbaojaadmooogaaPFnExactRunPiecesx0
import Derived.Test.YtbaojaadmooogaaPFnExactRunPiecesx2
namespace Go.Proofs.Ytbaojaadmooogaa.PFnExactRunPieces
set_option maxHeartbeats 8000000
set_option maxRecDepth 100000
open Go.RowKit Go.Proofs.YtbaojaadmooogaaW.PrintWords Go.Proofs.YtbaojaadmooogaaW.PrintLast Go.Proofs.YtbaojaadmooogaaW.PrintMore
attribute [local go_sem] max2_int min2_int max_two min_two max_three min_three max_four min_four
set_option linter.unusedVariables false
set_option linter.unusedSimpArgs false
def spec_l14Once.l0 : Nat → Int → List Int → List Int → Int → Int → Option (Bool)
 | 0, _, _, _, _, _ => none
 | k + 1, x0, x1, x7, x8, x9 => if x9 < x8 then (if 0 ≤ x9 then (if x9 < (x7.length : Int) then ((spec_l1In.f (rd x7 x9) 0 (wrap64 (x0 - 1))).bind fun t135 => (if t135 = true then (if x9 ≤ (x1.length : Int) then ((spec_l1Has.f k (x1.take (x9 : Int).toNat) (rd x7 x9)).bind fun t137 => (if t137 = true then (some false) else (spec_l14Once.l0 k x0 x1 x7 x8 (wrap64 (x9 + 1))))) else (none)) else (some false))) else (none)) else (none)) else (some true)
def spec_l14Once.f (k : Nat) (a0 : Int) (l1 : List Int) : Option (Bool) := spec_l14Once.l0 k a0 l1 l1 (l1.length : Int) 0
theorem spec_l14Once.mono_l : ∀ k, (∀ y0 y1 y2 y3 y4, LeO (spec_l14Once.l0 k y0 y1 y2 y3 y4) (spec_l14Once.l0 (k + 1) y0 y1 y2 y3 y4))
 | 0 => fun _ _ _ _ _ r h => by simp [spec_l14Once.l0] at h
 | k + 1 => by
  have ih0 := spec_l14Once.mono_l k
  ·intro y0 y1 y2 y3 y4
   unfold spec_l14Once.l0
   repeat' first
   | (with_reducible exact ih0 _ _ _ _ _)
   | (with_reducible exact spec_l1Has.mono _ _ _)
   | (with_reducible exact LeO.refl _)
   | (with_reducible exact LeO.none _)
   | (with_reducible refine LeO.ite ?_ ?_)
   | (with_reducible refine LeO.bind ?_ (fun _ => ?_))
   | exact ih0 _ _ _ _ _
   | exact spec_l1Has.mono _ _ _
   | exact LeO.none _
   | refine LeO.ite ?_ ?_
   | refine LeO.bind ?_ (fun _ => ?_)
theorem spec_l14Once.mono : ∀ a0 a1 k, LeO (spec_l14Once.f k a0 a1) (spec_l14Once.f (k + 1) a0 a1) := by
 intro a0 a1 k; have ih0 := spec_l14Once.mono_l k
 unfold spec_l14Once.f
 repeat' first
   | (with_reducible exact ih0 _ _ _ _ _)
   | (with_reducible exact spec_l1Has.mono _ _ _)
   | (with_reducible exact LeO.refl _)
   | (with_reducible exact LeO.none _)
   | (with_reducible refine LeO.ite ?_ ?_)
   | (with_reducible refine LeO.bind ?_ (fun _ => ?_))
   | exact ih0 _ _ _ _ _
   | exact spec_l1Has.mono _ _ _
   | exact LeO.none _
   | refine LeO.ite ?_ ?_
   | refine LeO.bind ?_ (fun _ => ?_)
theorem spec_l14Once.calls (k : Nat) (a0 : Int) (A1 : Option Addr) (c1 : Nat) (l1 : List Int) (r : Bool) (w : World) (hr1 : Kd.C (Kd.int .i64) w A1 l1.length l1) (hc1 : l1.length ≤ c1) (h : spec_l14Once.f k a0 l1 = some r) :
  Calls Try.prog 52 #[.int .i64 a0, .slice A1 l1.length c1] w fun e w' => e = .returned (.bool r) ∧ Drawn0 w w' := by
 have HR1 := Aside0.mk hr1; have HC1 := Aside0.mk hc1; clear hr1 hc1; have H : (spec_l14Once.l0 k a0 l1 l1 (l1.length : Int) 0) = some r := h; clear h; have H' := Aside0.mk H; clear H
 go_enter Try.func52, Try.ntmps52
 go_wp2
 go_loopg [9] k (fun kq v9 w' => ∃ (x9_1 : Int), v9 = .int .i64 x9_1 ∧ Aside0 (spec_l14Once.l0 kq a0 l1 l1 (l1.length : Int) x9_1 = some r) ∧ Aside0 (kq ≤ k) ∧ Drawn0 w w')
 case atStart => exact ⟨(0), (by first | rfl | (simp; done) | (simp [*]; done)), H', ⟨Nat.le_refl _⟩, by repeat (first | exact Drawn0.refl _ | apply Drawn0.step)⟩
 case round =>
  clear H'
  try clear c1
  try clear p2
  obtain ⟨x9_1, rfl, HA, HK1, ⟨m1, rfl⟩⟩ := hrel; cases gk with
  | zero => exact absurd HA.out (by simp [spec_l14Once.l0])
  | succ k1 =>
   have H := HA.out; clear HA
   simp only [spec_l14Once.l0] at H
   by_cases c3 : x9_1 < (l1.length : Int)
   ·rw [if_pos c3] at H
    have c3b0 : decide (x9_1 < (l1.length : Int)) = true := decide_eq_true c3; clear c3
    by_cases c4 : 0 ≤ x9_1
    ·rw [if_pos c4] at H
     have c4b0 : decide (0 ≤ x9_1) = true := decide_eq_true c4; clear c4
     by_cases c5 : x9_1 < (l1.length : Int)
     ·rw [if_pos c5] at H
      have c5b0 : decide (x9_1 < (l1.length : Int)) = true := decide_eq_true c5; clear c5; replace H := Option.bind_eq_some_iff.mp H; obtain ⟨t135, A60, H⟩ := H; replace H : (if t135 = true then (if x9_1 ≤ (l1.length : Int) then ((spec_l1Has.f k1 (l1.take (x9_1 : Int).toNat) (rd l1 x9_1)).bind fun t137 => (if t137 = true then (some false) else (spec_l14Once.l0 k1 a0 l1 l1 (l1.length : Int) (wrap64 (x9_1 + 1))))) else (none)) else (some false)) = some r := H; have A6 := Aside0.mk A60; clear A60
      by_cases c7 : t135 = true
      ·subst c7
       have H1 : (if x9_1 ≤ (l1.length : Int) then ((spec_l1Has.f k1 (l1.take (x9_1 : Int).toNat) (rd l1 x9_1)).bind fun t137 => (if t137 = true then (some false) else (spec_l14Once.l0 k1 a0 l1 l1 (l1.length : Int) (wrap64 (x9_1 + 1))))) else (none)) = some r := by rw [if_pos rfl] at H; exact H
       clear H; have H := H1; clear H1; have c8b0 := eq_true (of_decide_eq_true (by first | (with_reducible assumption) | assumption) : 0 ≤ x9_1)
       by_cases c9 : x9_1 ≤ (l1.length : Int)
       ·rw [if_pos c9] at H
        have c9b0 := eq_true c9; have c9b1 : decide (x9_1 ≤ (l1.length : Int)) = true := decide_eq_true c9; clear c9; replace H := Option.bind_eq_some_iff.mp H; obtain ⟨t137, A100, H⟩ := H; replace H : (if t137 = true then (some false) else (spec_l14Once.l0 k1 a0 l1 l1 (l1.length : Int) (wrap64 (x9_1 + 1)))) = some r := H; have A10 := Aside0.mk A100; clear A100
        by_cases c11 : t137 = true
        ·subst c11
         have H1 : (some false) = some r := by rw [if_pos rfl] at H; exact H
         clear H; have H := H1; clear H1; obtain rfl := Option.some.inj H; have p134 : 0 ≤ (x9_1 : Int) := of_decide_eq_true (by first | (with_reducible assumption) | assumption); have q134 : x9_1 < (l1.length : Int) := of_decide_eq_true (by first | (with_reducible assumption) | assumption); obtain ⟨ad134, e134, hx134_0⟩ := Kd.at_int HR1.out x9_1 p134 q134; cases e134; replace p134 := eq_true p134; replace q134 := eq_true q134
         go_wp2_with (first | ((with_reducible refine gate_callee (f := 45) rfl ?_); refine goesL_ (some 17) rfl rfl Try.func45 (by kernel_rfl) rfl #[.int .i64 (rd l1 x9_1), .int .i64 0, .int .i64 (wrap64 (a0 - 1))] rfl (by (try simp only [List.map_toArray, List.map_cons, List.map_nil]); first | done | rfl | (simp only [List.length_drop, List.length_take]; rfl)) ?_; (with_reducible refine (spec_l1In.calls (rd l1 x9_1) 0 (wrap64 (a0 - 1)) true _ A6.out).mono ?_); rintro e w' ⟨rfl, ⟨nd, rfl⟩⟩; refine ⟨_, rfl, ?_⟩; obtain ⟨i012, hi012, _, hsz12, _⟩ := info_parts info3; obtain ⟨hcut12, hA12, hC12⟩ := print_take_of (P := Try.prog) (Value.int .i64) 0 37 3 .i64 Try.underlying37 hi012 hsz12 (some ad134) c1 l1 x9_1 (of_decide_eq_true (by first | (with_reducible assumption) | assumption)) (of_decide_eq_true (by first | (with_reducible assumption) | assumption)) HC1.out; have HR136 := Aside0.mk (Kd.C_of_reads (h1 := fun _ => rfl) (hA12 _ (Kd.reads_of_C HR1.out))); have HC136 := Aside0.mk hC12; clear hA12 hC12 hi012 hsz12) | (go_at_call 54; rw [show ((x9_1 : Int).toNat) = (l1.take (x9_1 : Int).toNat).length from (by rw [List.length_take]; have h_ : (x9_1 : Int) ≤ (l1.length : Int) := (by first | assumption | exact of_decide_eq_true (by assumption) | exact of_eq_true (by assumption)); omega)]; (with_reducible refine (spec_l1Has.calls k1 _ _ (l1.take (x9_1 : Int).toNat) (rd l1 x9_1) true _ ?side1 ?side2 A10.out).mono ?_); (case side1 => repeat (first | exact HR136.out | (with_reducible refine Kd.C_alloc ?_ _) | (with_reducible refine Kd.C_drewN ?_ _) | (with_reducible refine Kd.C_drew ?_))); (case side2 => exact HC136.out); rintro e w' ⟨rfl, ⟨nd, rfl⟩⟩))
         go_ret
         exact ⟨by first | rfl | (simp; done) | (simp [*]; done), by repeat (first | exact Drawn0.refl _ | apply Drawn0.step)⟩
        ·replace c11 := Bool.eq_false_iff.mpr c11
         subst c11; have H1 : (spec_l14Once.l0 k1 a0 l1 l1 (l1.length : Int) (wrap64 (x9_1 + 1))) = some r := by rw [if_neg (show ¬ (false = true) by decide)] at H; exact H
         clear H; have H := H1; clear H1; have H' := Aside0.mk H; clear H; have p134 : 0 ≤ (x9_1 : Int) := of_decide_eq_true (by first | (with_reducible assumption) | assumption); have q134 : x9_1 < (l1.length : Int) := of_decide_eq_true (by first | (with_reducible assumption) | assumption); obtain ⟨ad134, e134, hx134_0⟩ := Kd.at_int HR1.out x9_1 p134 q134; cases e134; replace p134 := eq_true p134; replace q134 := eq_true q134
         go_wp2_with (first | ((with_reducible refine gate_callee (f := 45) rfl ?_); refine goesL_ (some 17) rfl rfl Try.func45 (by kernel_rfl) rfl #[.int .i64 (rd l1 x9_1), .int .i64 0, .int .i64 (wrap64 (a0 - 1))] rfl (by (try simp only [List.map_toArray, List.map_cons, List.map_nil]); first | done | rfl | (simp only [List.length_drop, List.length_take]; rfl)) ?_; (with_reducible refine (spec_l1In.calls (rd l1 x9_1) 0 (wrap64 (a0 - 1)) true _ A6.out).mono ?_); rintro e w' ⟨rfl, ⟨nd, rfl⟩⟩; refine ⟨_, rfl, ?_⟩; obtain ⟨i013, hi013, _, hsz13, _⟩ := info_parts info3; obtain ⟨hcut13, hA13, hC13⟩ := print_take_of (P := Try.prog) (Value.int .i64) 0 37 3 .i64 Try.underlying37 hi013 hsz13 (some ad134) c1 l1 x9_1 (of_decide_eq_true (by first | (with_reducible assumption) | assumption)) (of_decide_eq_true (by first | (with_reducible assumption) | assumption)) HC1.out; have HR136 := Aside0.mk (Kd.C_of_reads (h1 := fun _ => rfl) (hA13 _ (Kd.reads_of_C HR1.out))); have HC136 := Aside0.mk hC13; clear hA13 hC13 hi013 hsz13) | (go_at_call 54; rw [show ((x9_1 : Int).toNat) = (l1.take (x9_1 : Int).toNat).length from (by rw [List.length_take]; have h_ : (x9_1 : Int) ≤ (l1.length : Int) := (by first | assumption | exact of_decide_eq_true (by assumption) | exact of_eq_true (by assumption)); omega)]; (with_reducible refine (spec_l1Has.calls k1 _ _ (l1.take (x9_1 : Int).toNat) (rd l1 x9_1) false _ ?side1 ?side2 A10.out).mono ?_); (case side1 => repeat (first | exact HR136.out | (with_reducible refine Kd.C_alloc ?_ _) | (with_reducible refine Kd.C_drewN ?_ _) | (with_reducible refine Kd.C_drew ?_))); (case side2 => exact HC136.out); rintro e w' ⟨rfl, ⟨nd, rfl⟩⟩))
         go_roundg k1
         case measure => have := HK1.out; omega
         case rel => exact ⟨(wrap64 (x9_1 + 1)), (by first | rfl | (simp; done) | (simp [*]; done)), H', ⟨by have := HK1.out; omega⟩, by repeat (first | exact Drawn0.refl _ | apply Drawn0.step)⟩
       ·rw [if_neg c9] at H
        exact absurd H (by simp)
      ·replace c7 := Bool.eq_false_iff.mpr c7
       subst c7; have H1 : (some false) = some r := by rw [if_neg (show ¬ (false = true) by decide)] at H; exact H
       clear H; have H := H1; clear H1; obtain rfl := Option.some.inj H; have p134 : 0 ≤ (x9_1 : Int) := of_decide_eq_true (by first | (with_reducible assumption) | assumption); have q134 : x9_1 < (l1.length : Int) := of_decide_eq_true (by first | (with_reducible assumption) | assumption); obtain ⟨ad134, e134, hx134_0⟩ := Kd.at_int HR1.out x9_1 p134 q134; cases e134; replace p134 := eq_true p134; replace q134 := eq_true q134
       go_wp2_with (first | ((with_reducible refine gate_callee (f := 45) rfl ?_); refine goesL_ (some 17) rfl rfl Try.func45 (by kernel_rfl) rfl #[.int .i64 (rd l1 x9_1), .int .i64 0, .int .i64 (wrap64 (a0 - 1))] rfl (by (try simp only [List.map_toArray, List.map_cons, List.map_nil]); first | done | rfl | (simp only [List.length_drop, List.length_take]; rfl)) ?_; (with_reducible refine (spec_l1In.calls (rd l1 x9_1) 0 (wrap64 (a0 - 1)) false _ A6.out).mono ?_); rintro e w' ⟨rfl, ⟨nd, rfl⟩⟩; refine ⟨_, rfl, ?_⟩))
       go_ret
       exact ⟨by first | rfl | (simp; done) | (simp [*]; done), by repeat (first | exact Drawn0.refl _ | apply Drawn0.step)⟩
     ·rw [if_neg c5] at H
      exact absurd H (by simp)
    ·rw [if_neg c4] at H
     exact absurd H (by simp)
   ·rw [if_neg c3] at H
    have c3b0 : decide (x9_1 < (l1.length : Int)) = false := decide_eq_false c3; clear c3; obtain rfl := Option.some.inj H
    go_wp2
    go_ret
    exact ⟨by first | rfl | (simp; done) | (simp [*]; done), by repeat (first | exact Drawn0.refl _ | apply Drawn0.step)⟩
mutual
def spec_GoodSteps.l0 : Nat → List (S98) → List (S98) → Int → Int → Option (Bool)
 | 0, _, _, _, _ => none
 | k + 1, x0, x6, x7, x8 => if x8 < x7 then (if 0 ≤ x8 then (if x8 < (x6.length : Int) then ((spec_l1In.f ((rd_T98 x6 x8).f1) 0 2).bind fun t140 => (if t140 = true then ((spec_l1In.f ((rd_T98 x6 x8).f2) 0 3).bind fun t141 => (if t141 = true then ((spec_l1In.f ((rd_T98 x6 x8).f4) (-99) 99).bind fun t142 => (spec_GoodSteps.j1 k x0 x8 x6 x7 x8 (!t142) ((rd_T98 x6 x8).f0) ((rd_T98 x6 x8).f1) ((rd_T98 x6 x8).f2) ((rd_T98 x6 x8).f3) ((rd_T98 x6 x8).f4))) else (spec_GoodSteps.j1 k x0 x8 x6 x7 x8 true ((rd_T98 x6 x8).f0) ((rd_T98 x6 x8).f1) ((rd_T98 x6 x8).f2) ((rd_T98 x6 x8).f3) ((rd_T98 x6 x8).f4)))) else (spec_GoodSteps.j1 k x0 x8 x6 x7 x8 true ((rd_T98 x6 x8).f0) ((rd_T98 x6 x8).f1) ((rd_T98 x6 x8).f2) ((rd_T98 x6 x8).f3) ((rd_T98 x6 x8).f4)))) else (none)) else (none)) else (some (decide ((x0.length : Int) ≤ 10)))
def spec_GoodSteps.j1 : Nat → List (S98) → Int → List (S98) → Int → Int → Bool → Int → Int → Int → Int → Int → Option (Bool)
 | 0, _, _, _, _, _, _, _, _, _, _, _ => none
 | k + 1, x0, x3, x6, x7, x8, x28, x140000, x140001, x140002, x140003, x140004 => if x28 = true then (some false) else ((spec_l1In.f x140003 0 (wrap64 (x3 - 1))).bind fun t143 => (if x140000 = 1 then (if x140003 = 0 then (if x140004 = 0 then (spec_GoodSteps.l0 k x0 x6 x7 (wrap64 (x8 + 1))) else (some false)) else (some false)) else (if x140000 = 2 then (if t143 = true then (if x140002 = 0 then (spec_GoodSteps.l0 k x0 x6 x7 (wrap64 (x8 + 1))) else (some false)) else (some false)) else (if x140000 = 3 then (if t143 = true then (if x140004 = 0 then (spec_GoodSteps.l0 k x0 x6 x7 (wrap64 (x8 + 1))) else (some false)) else (some false)) else (some false)))))
end
def spec_GoodSteps.f (k : Nat) (l0 : List (S98)) : Option (Bool) := spec_GoodSteps.l0 k l0 l0 (l0.length : Int) 0
theorem spec_GoodSteps.mono_l : ∀ k, (∀ y0 y1 y2 y3, LeO (spec_GoodSteps.l0 k y0 y1 y2 y3) (spec_GoodSteps.l0 (k + 1) y0 y1 y2 y3)) ∧ (∀ y0 y1 y2 y3 y4 y5 y6 y7 y8 y9 y10, LeO (spec_GoodSteps.j1 k y0 y1 y2 y3 y4 y5 y6 y7 y8 y9 y10) (spec_GoodSteps.j1 (k + 1) y0 y1 y2 y3 y4 y5 y6 y7 y8 y9 y10))
 | 0 => ⟨fun _ _ _ _ r h => by simp [spec_GoodSteps.l0] at h, fun _ _ _ _ _ _ _ _ _ _ _ r h => by simp [spec_GoodSteps.j1] at h⟩
 | k + 1 => by
  obtain ⟨ih0, ih1⟩ := spec_GoodSteps.mono_l k; refine ⟨?_, ?_⟩
  ·intro y0 y1 y2 y3
   unfold spec_GoodSteps.l0
   repeat' first
   | (with_reducible exact ih0 _ _ _ _)
   | (with_reducible exact ih1 _ _ _ _ _ _ _ _ _ _ _)
   | (with_reducible exact LeO.refl _)
   | (with_reducible exact LeO.none _)
   | (with_reducible refine LeO.ite ?_ ?_)
   | (with_reducible refine LeO.bind ?_ (fun _ => ?_))
   | exact ih0 _ _ _ _
   | exact ih1 _ _ _ _ _ _ _ _ _ _ _
   | exact LeO.none _
   | refine LeO.ite ?_ ?_
   | refine LeO.bind ?_ (fun _ => ?_)
  ·intro y0 y1 y2 y3 y4 y5 y6 y7 y8 y9 y10
   unfold spec_GoodSteps.j1
   repeat' first
   | (with_reducible exact ih0 _ _ _ _)
   | (with_reducible exact ih1 _ _ _ _ _ _ _ _ _ _ _)
   | (with_reducible exact LeO.refl _)
   | (with_reducible exact LeO.none _)
   | (with_reducible refine LeO.ite ?_ ?_)
   | (with_reducible refine LeO.bind ?_ (fun _ => ?_))
   | exact ih0 _ _ _ _
   | exact ih1 _ _ _ _ _ _ _ _ _ _ _
   | exact LeO.none _
   | refine LeO.ite ?_ ?_
   | refine LeO.bind ?_ (fun _ => ?_)
theorem spec_GoodSteps.mono : ∀ a0 k, LeO (spec_GoodSteps.f k a0) (spec_GoodSteps.f (k + 1) a0) := by
 intro a0 k; obtain ⟨ih0, ih1⟩ := spec_GoodSteps.mono_l k
 unfold spec_GoodSteps.f
 repeat' first
   | (with_reducible exact ih0 _ _ _ _)
   | (with_reducible exact ih1 _ _ _ _ _ _ _ _ _ _ _)
   | (with_reducible exact LeO.refl _)
   | (with_reducible exact LeO.none _)
   | (with_reducible refine LeO.ite ?_ ?_)
   | (with_reducible refine LeO.bind ?_ (fun _ => ?_))
   | exact ih0 _ _ _ _
   | exact ih1 _ _ _ _ _ _ _ _ _ _ _
   | exact LeO.none _
   | refine LeO.ite ?_ ?_
   | refine LeO.bind ?_ (fun _ => ?_)
theorem spec_GoodSteps.calls (k : Nat) (A0 : Option Addr) (c0 : Nat) (l0 : List (S98)) (r : Bool) (w : World) (hr0 : Kd.C k98 w A0 l0.length l0) (hc0 : l0.length ≤ c0) (h : spec_GoodSteps.f k l0 = some r) :
  Calls Try.prog 72 #[.slice A0 l0.length c0] w fun e w' => e = .returned (.bool r) ∧ Below w.heap.size w w' := by
 have hu98 := Try.underlying98; have HR0 := Aside0.mk hr0; have HC0 := Aside0.mk hc0; clear hr0 hc0; have HB := Aside0.mk (Below.refl w.heap.size w); have H : (spec_GoodSteps.l0 k l0 l0 (l0.length : Int) 0) = some r := h; clear h; have H' := Aside0.mk H; clear H
 go_enter Try.func72, Try.ntmps72
 go_wp2
 go_loopg [8] k (fun kq v8 w' => ∃ (x8_1 : Int), v8 = .int .i64 x8_1 ∧ Aside0 (spec_GoodSteps.l0 kq l0 l0 (l0.length : Int) x8_1 = some r) ∧ Aside0 (kq ≤ k) ∧ Aside0 (Below w.heap.size w w'))
 case atStart => exact ⟨(0), (by first | rfl | (simp; done) | (simp [*]; done)), H', ⟨Nat.le_refl _⟩, ⟨by repeat first | exact HB.out | apply below_alloc | apply pw_below_drewN | apply below_drew1⟩⟩
 case round =>
  clear H'; obtain ⟨x8_1, rfl, HA, HK1, HB⟩ := hrel; cases gk with
  | zero => exact absurd HA.out (by simp [spec_GoodSteps.l0])
  | succ k1 =>
   have H := HA.out; clear HA
   simp only [spec_GoodSteps.l0] at H
   by_cases c2 : x8_1 < (l0.length : Int)
   ·rw [if_pos c2] at H
    have c2b0 : decide (x8_1 < (l0.length : Int)) = true := decide_eq_true c2; clear c2
    by_cases c3 : 0 ≤ x8_1
    ·rw [if_pos c3] at H
     have c3b0 : decide (0 ≤ x8_1) = true := decide_eq_true c3; clear c3
     by_cases c4 : x8_1 < (l0.length : Int)
     ·rw [if_pos c4] at H
      have c4b0 : decide (x8_1 < (l0.length : Int)) = true := decide_eq_true c4; clear c4; have HC5 := Aside0.mk H; clear H; have p138 : 0 ≤ (x8_1 : Int) := of_decide_eq_true (by first | (with_reducible assumption) | assumption); have q138 : x8_1 < (l0.length : Int) := of_decide_eq_true (by first | (with_reducible assumption) | assumption); obtain ⟨ad138, e138, hx138_0, hx138_1, hx138_2, hx138_3, hx138_4⟩ := at_T98 HR0.out x8_1 p138 q138; cases e138; replace hx138_0 := (HB.out.cell (World.block_lt_of_cell? w _ hx138_0)).trans hx138_0; replace hx138_1 := (HB.out.cell (World.block_lt_of_cell? w _ hx138_1)).trans hx138_1; replace hx138_2 := (HB.out.cell (World.block_lt_of_cell? w _ hx138_2)).trans hx138_2; replace hx138_3 := (HB.out.cell (World.block_lt_of_cell? w _ hx138_3)).trans hx138_3; replace hx138_4 := (HB.out.cell (World.block_lt_of_cell? w _ hx138_4)).trans hx138_4; replace p138 := eq_true p138; replace q138 := eq_true q138
      go_upto_region 4 with (first | ((with_reducible refine gate_dst (N := 4) rfl ?_); refine box_event ?hg (N := 4) ?hd (cs := #[.int .i64 0, .int .i64 0, .int .i64 0, .int .i64 0, .int .i64 0]) (t := 98) ?hr ?_; (case hd => rfl); (case hg => rfl); (case hr => first | (go_simp; done) | (go_simp; rfl)); intro gb139 hg w6 hbox hb; have n0_ := Aside0.mk (below_step (by repeat first | exact HB.out | apply below_alloc | apply pw_below_drewN | apply below_drew1) hb); have n1_ := Aside0.mk (hbox); have n2_ := Aside0.mk ((by rw [hg]; exact (below_size (by repeat first | exact HB.out | apply below_alloc | apply pw_below_drewN | apply below_drew1)) : w.heap.size ≤ gb139)); have n3_ := Aside0.mk ((by rw [hg]; exact (below_size (by repeat first | exact HB.out | apply below_alloc | apply pw_below_drewN | apply below_drew1)) : w.heap.size ≤ gb139)); clear HB; have HB := n0_; have BK139 := n1_; have GW139 := n2_; have GE139 := n3_; clear n0_ n1_ n2_ n3_; clear hb hbox hg; have hcz7_0 : w6.cell? ⟨gb139, 0, none⟩ = some (.int .i64 0) := (blk_cell BK139.out 0).trans rfl; have hcz7_1 : w6.cell? ⟨gb139, 1, none⟩ = some (.int .i64 0) := (blk_cell BK139.out 1).trans rfl; have hcz7_2 : w6.cell? ⟨gb139, 2, none⟩ = some (.int .i64 0) := (blk_cell BK139.out 2).trans rfl; have hcz7_3 : w6.cell? ⟨gb139, 3, none⟩ = some (.int .i64 0) := (blk_cell BK139.out 3).trans rfl; have hcz7_4 : w6.cell? ⟨gb139, 4, none⟩ = some (.int .i64 0) := (blk_cell BK139.out 4).trans rfl; have hfz7_0 := blk_frozen BK139.out 0; have hfz7_1 := blk_frozen BK139.out 1; have hfz7_2 := blk_frozen BK139.out 2; have hfz7_3 := blk_frozen BK139.out 3; have hfz7_4 := blk_frozen BK139.out 4))
      (try simp only [Act.put, List.setIfInBounds_toArray, List.set_cons_zero, List.set_cons_succ])
      go_cut [28] (fun v28 wc => ∃ (kq : Nat) (x28_4 : Bool), v28 = .bool x28_4 ∧ Aside0 (spec_GoodSteps.j1 kq l0 x8_1 l0 (l0.length : Int) x8_1 x28_4 ((rd_T98 l0 x8_1).f0) ((rd_T98 l0 x8_1).f1) ((rd_T98 l0 x8_1).f2) ((rd_T98 l0 x8_1).f3) ((rd_T98 l0 x8_1).f4) = some r) ∧ Aside0 (kq ≤ k1) ∧ Aside0 (wc.heap[gb139]? = some (.cells #[.int .i64 ((rd_T98 l0 x8_1).f0), .int .i64 ((rd_T98 l0 x8_1).f1), .int .i64 ((rd_T98 l0 x8_1).f2), .int .i64 ((rd_T98 l0 x8_1).f3), .int .i64 ((rd_T98 l0 x8_1).f4)] 98 (0, 0))) ∧ Aside0 (Below w.heap.size w wc))
      case first =>
       have H := HC5.out; clear HC5; replace H := Option.bind_eq_some_iff.mp H; obtain ⟨t140, A80, H⟩ := H; replace H : (if t140 = true then ((spec_l1In.f ((rd_T98 l0 x8_1).f2) 0 3).bind fun t141 => (if t141 = true then ((spec_l1In.f ((rd_T98 l0 x8_1).f4) (-99) 99).bind fun t142 => (spec_GoodSteps.j1 k1 l0 x8_1 l0 (l0.length : Int) x8_1 (!t142) ((rd_T98 l0 x8_1).f0) ((rd_T98 l0 x8_1).f1) ((rd_T98 l0 x8_1).f2) ((rd_T98 l0 x8_1).f3) ((rd_T98 l0 x8_1).f4))) else (spec_GoodSteps.j1 k1 l0 x8_1 l0 (l0.length : Int) x8_1 true ((rd_T98 l0 x8_1).f0) ((rd_T98 l0 x8_1).f1) ((rd_T98 l0 x8_1).f2) ((rd_T98 l0 x8_1).f3) ((rd_T98 l0 x8_1).f4)))) else (spec_GoodSteps.j1 k1 l0 x8_1 l0 (l0.length : Int) x8_1 true ((rd_T98 l0 x8_1).f0) ((rd_T98 l0 x8_1).f1) ((rd_T98 l0 x8_1).f2) ((rd_T98 l0 x8_1).f3) ((rd_T98 l0 x8_1).f4))) = some r := H; have A8 := Aside0.mk A80; clear A80
       by_cases c9 : t140 = true
       ·subst c9
        have H1 : ((spec_l1In.f ((rd_T98 l0 x8_1).f2) 0 3).bind fun t141 => (if t141 = true then ((spec_l1In.f ((rd_T98 l0 x8_1).f4) (-99) 99).bind fun t142 => (spec_GoodSteps.j1 k1 l0 x8_1 l0 (l0.length : Int) x8_1 (!t142) ((rd_T98 l0 x8_1).f0) ((rd_T98 l0 x8_1).f1) ((rd_T98 l0 x8_1).f2) ((rd_T98 l0 x8_1).f3) ((rd_T98 l0 x8_1).f4))) else (spec_GoodSteps.j1 k1 l0 x8_1 l0 (l0.length : Int) x8_1 true ((rd_T98 l0 x8_1).f0) ((rd_T98 l0 x8_1).f1) ((rd_T98 l0 x8_1).f2) ((rd_T98 l0 x8_1).f3) ((rd_T98 l0 x8_1).f4)))) = some r := by rw [if_pos rfl] at H; exact H
        clear H; have H := H1; clear H1; replace H := Option.bind_eq_some_iff.mp H; obtain ⟨t141, A100, H⟩ := H; replace H : (if t141 = true then ((spec_l1In.f ((rd_T98 l0 x8_1).f4) (-99) 99).bind fun t142 => (spec_GoodSteps.j1 k1 l0 x8_1 l0 (l0.length : Int) x8_1 (!t142) ((rd_T98 l0 x8_1).f0) ((rd_T98 l0 x8_1).f1) ((rd_T98 l0 x8_1).f2) ((rd_T98 l0 x8_1).f3) ((rd_T98 l0 x8_1).f4))) else (spec_GoodSteps.j1 k1 l0 x8_1 l0 (l0.length : Int) x8_1 true ((rd_T98 l0 x8_1).f0) ((rd_T98 l0 x8_1).f1) ((rd_T98 l0 x8_1).f2) ((rd_T98 l0 x8_1).f3) ((rd_T98 l0 x8_1).f4))) = some r := H; have A10 := Aside0.mk A100; clear A100
        by_cases c11 : t141 = true
        ·subst c11
         have H1 : ((spec_l1In.f ((rd_T98 l0 x8_1).f4) (-99) 99).bind fun t142 => (spec_GoodSteps.j1 k1 l0 x8_1 l0 (l0.length : Int) x8_1 (!t142) ((rd_T98 l0 x8_1).f0) ((rd_T98 l0 x8_1).f1) ((rd_T98 l0 x8_1).f2) ((rd_T98 l0 x8_1).f3) ((rd_T98 l0 x8_1).f4))) = some r := by rw [if_pos rfl] at H; exact H
         clear H; have H := H1; clear H1; replace H := Option.bind_eq_some_iff.mp H; obtain ⟨t142, A120, H⟩ := H; replace H : (spec_GoodSteps.j1 k1 l0 x8_1 l0 (l0.length : Int) x8_1 (!t142) ((rd_T98 l0 x8_1).f0) ((rd_T98 l0 x8_1).f1) ((rd_T98 l0 x8_1).f2) ((rd_T98 l0 x8_1).f3) ((rd_T98 l0 x8_1).f4)) = some r := H; have A12 := Aside0.mk A120; clear A120; have H' := Aside0.mk H; clear H; have hcz13_0 : w6.cell? ⟨gb139, 0, none⟩ = some (.int .i64 0) := (blk_cell BK139.out 0).trans rfl; have hcz13_1 : w6.cell? ⟨gb139, 1, none⟩ = some (.int .i64 0) := (blk_cell BK139.out 1).trans rfl; have hcz13_2 : w6.cell? ⟨gb139, 2, none⟩ = some (.int .i64 0) := (blk_cell BK139.out 2).trans rfl; have hcz13_3 : w6.cell? ⟨gb139, 3, none⟩ = some (.int .i64 0) := (blk_cell BK139.out 3).trans rfl; have hcz13_4 : w6.cell? ⟨gb139, 4, none⟩ = some (.int .i64 0) := (blk_cell BK139.out 4).trans rfl; have hfz13_0 := blk_frozen BK139.out 0; have hfz13_1 := blk_frozen BK139.out 1; have hfz13_2 := blk_frozen BK139.out 2; have hfz13_3 := blk_frozen BK139.out 3; have hfz13_4 := blk_frozen BK139.out 4
         go_wp2_with (first | ((with_reducible refine gate_callee (f := 45) rfl ?_); refine goesL_ (some 15) rfl rfl Try.func45 (by kernel_rfl) rfl #[.int .i64 ((rd_T98 l0 x8_1).f1), .int .i64 0, .int .i64 2] rfl (by (try simp only [List.map_toArray, List.map_cons, List.map_nil]); first | done | rfl | (simp only [List.length_drop, List.length_take]; rfl)) ?_; (with_reducible refine (spec_l1In.calls ((rd_T98 l0 x8_1).f1) 0 2 true _ A8.out).mono ?_); rintro e w' ⟨rfl, ⟨nd, rfl⟩⟩; refine ⟨_, rfl, ?_⟩) | (go_at_call 45; (with_reducible refine (spec_l1In.calls ((rd_T98 l0 x8_1).f2) 0 3 true _ A10.out).mono ?_); rintro e w' ⟨rfl, ⟨nd, rfl⟩⟩) | (go_at_call 45; (with_reducible refine (spec_l1In.calls ((rd_T98 l0 x8_1).f4) (-99) 99 t142 _ A12.out).mono ?_); rintro e w' ⟨rfl, ⟨nd, rfl⟩⟩))
         go_meet
         case rel => exact ⟨_, (!t142), (by first | rfl | (simp; done) | (simp [*]; done)), H', ⟨by have := HK1.out; first | omega | exact Nat.le_refl _⟩, ⟨by (with_reducible repeat (first | refine blk_drewN ?_ _ | refine blk_drew ?_ | refine blk_alloc ?_ _)); refine blk_put (cs := #[.int .i64 ((rd_T98 l0 x8_1).f0), .int .i64 ((rd_T98 l0 x8_1).f1), .int .i64 ((rd_T98 l0 x8_1).f2), .int .i64 ((rd_T98 l0 x8_1).f3), .int .i64 0]) ?_ 4 _ rfl; (with_reducible repeat (first | refine blk_drewN ?_ _ | refine blk_drew ?_ | refine blk_alloc ?_ _)); refine blk_put (cs := #[.int .i64 ((rd_T98 l0 x8_1).f0), .int .i64 ((rd_T98 l0 x8_1).f1), .int .i64 ((rd_T98 l0 x8_1).f2), .int .i64 0, .int .i64 0]) ?_ 3 _ rfl; (with_reducible repeat (first | refine blk_drewN ?_ _ | refine blk_drew ?_ | refine blk_alloc ?_ _)); refine blk_put (cs := #[.int .i64 ((rd_T98 l0 x8_1).f0), .int .i64 ((rd_T98 l0 x8_1).f1), .int .i64 0, .int .i64 0, .int .i64 0]) ?_ 2 _ rfl; (with_reducible repeat (first | refine blk_drewN ?_ _ | refine blk_drew ?_ | refine blk_alloc ?_ _)); refine blk_put (cs := #[.int .i64 ((rd_T98 l0 x8_1).f0), .int .i64 0, .int .i64 0, .int .i64 0, .int .i64 0]) ?_ 1 _ rfl; (with_reducible repeat (first | refine blk_drewN ?_ _ | refine blk_drew ?_ | refine blk_alloc ?_ _)); refine blk_put (cs := #[.int .i64 0, .int .i64 0, .int .i64 0, .int .i64 0, .int .i64 0]) ?_ 0 _ rfl; (with_reducible repeat (first | refine blk_drewN ?_ _ | refine blk_drew ?_ | refine blk_alloc ?_ _)); exact BK139.out⟩, ⟨by repeat (first | (with_reducible first | exact HB.out | apply below_alloc | apply pw_below_drewN | apply below_drew1 | refine below_set ?_ GE139.out) | exact HB.out)⟩⟩
        ·replace c11 := Bool.eq_false_iff.mpr c11
         subst c11; have H1 : (spec_GoodSteps.j1 k1 l0 x8_1 l0 (l0.length : Int) x8_1 true ((rd_T98 l0 x8_1).f0) ((rd_T98 l0 x8_1).f1) ((rd_T98 l0 x8_1).f2) ((rd_T98 l0 x8_1).f3) ((rd_T98 l0 x8_1).f4)) = some r := by rw [if_neg (show ¬ (false = true) by decide)] at H; exact H
         clear H; have H := H1; clear H1; have H' := Aside0.mk H; clear H; have hcz14_0 : w6.cell? ⟨gb139, 0, none⟩ = some (.int .i64 0) := (blk_cell BK139.out 0).trans rfl; have hcz14_1 : w6.cell? ⟨gb139, 1, none⟩ = some (.int .i64 0) := (blk_cell BK139.out 1).trans rfl; have hcz14_2 : w6.cell? ⟨gb139, 2, none⟩ = some (.int .i64 0) := (blk_cell BK139.out 2).trans rfl; have hcz14_3 : w6.cell? ⟨gb139, 3, none⟩ = some (.int .i64 0) := (blk_cell BK139.out 3).trans rfl; have hcz14_4 : w6.cell? ⟨gb139, 4, none⟩ = some (.int .i64 0) := (blk_cell BK139.out 4).trans rfl; have hfz14_0 := blk_frozen BK139.out 0; have hfz14_1 := blk_frozen BK139.out 1; have hfz14_2 := blk_frozen BK139.out 2; have hfz14_3 := blk_frozen BK139.out 3; have hfz14_4 := blk_frozen BK139.out 4
         go_wp2_with (first | ((with_reducible refine gate_callee (f := 45) rfl ?_); refine goesL_ (some 15) rfl rfl Try.func45 (by kernel_rfl) rfl #[.int .i64 ((rd_T98 l0 x8_1).f1), .int .i64 0, .int .i64 2] rfl (by (try simp only [List.map_toArray, List.map_cons, List.map_nil]); first | done | rfl | (simp only [List.length_drop, List.length_take]; rfl)) ?_; (with_reducible refine (spec_l1In.calls ((rd_T98 l0 x8_1).f1) 0 2 true _ A8.out).mono ?_); rintro e w' ⟨rfl, ⟨nd, rfl⟩⟩; refine ⟨_, rfl, ?_⟩) | (go_at_call 45; (with_reducible refine (spec_l1In.calls ((rd_T98 l0 x8_1).f2) 0 3 false _ A10.out).mono ?_); rintro e w' ⟨rfl, ⟨nd, rfl⟩⟩))
         go_meet
         case rel => exact ⟨_, (true), (by first | rfl | (simp; done) | (simp [*]; done)), H', ⟨by have := HK1.out; first | omega | exact Nat.le_refl _⟩, ⟨by (with_reducible repeat (first | refine blk_drewN ?_ _ | refine blk_drew ?_ | refine blk_alloc ?_ _)); refine blk_put (cs := #[.int .i64 ((rd_T98 l0 x8_1).f0), .int .i64 ((rd_T98 l0 x8_1).f1), .int .i64 ((rd_T98 l0 x8_1).f2), .int .i64 ((rd_T98 l0 x8_1).f3), .int .i64 0]) ?_ 4 _ rfl; (with_reducible repeat (first | refine blk_drewN ?_ _ | refine blk_drew ?_ | refine blk_alloc ?_ _)); refine blk_put (cs := #[.int .i64 ((rd_T98 l0 x8_1).f0), .int .i64 ((rd_T98 l0 x8_1).f1), .int .i64 ((rd_T98 l0 x8_1).f2), .int .i64 0, .int .i64 0]) ?_ 3 _ rfl; (with_reducible repeat (first | refine blk_drewN ?_ _ | refine blk_drew ?_ | refine blk_alloc ?_ _)); refine blk_put (cs := #[.int .i64 ((rd_T98 l0 x8_1).f0), .int .i64 ((rd_T98 l0 x8_1).f1), .int .i64 0, .int .i64 0, .int .i64 0]) ?_ 2 _ rfl; (with_reducible repeat (first | refine blk_drewN ?_ _ | refine blk_drew ?_ | refine blk_alloc ?_ _)); refine blk_put (cs := #[.int .i64 ((rd_T98 l0 x8_1).f0), .int .i64 0, .int .i64 0, .int .i64 0, .int .i64 0]) ?_ 1 _ rfl; (with_reducible repeat (first | refine blk_drewN ?_ _ | refine blk_drew ?_ | refine blk_alloc ?_ _)); refine blk_put (cs := #[.int .i64 0, .int .i64 0, .int .i64 0, .int .i64 0, .int .i64 0]) ?_ 0 _ rfl; (with_reducible repeat (first | refine blk_drewN ?_ _ | refine blk_drew ?_ | refine blk_alloc ?_ _)); exact BK139.out⟩, ⟨by repeat (first | (with_reducible first | exact HB.out | apply below_alloc | apply pw_below_drewN | apply below_drew1 | refine below_set ?_ GE139.out) | exact HB.out)⟩⟩
       ·replace c9 := Bool.eq_false_iff.mpr c9
        subst c9; have H1 : (spec_GoodSteps.j1 k1 l0 x8_1 l0 (l0.length : Int) x8_1 true ((rd_T98 l0 x8_1).f0) ((rd_T98 l0 x8_1).f1) ((rd_T98 l0 x8_1).f2) ((rd_T98 l0 x8_1).f3) ((rd_T98 l0 x8_1).f4)) = some r := by rw [if_neg (show ¬ (false = true) by decide)] at H; exact H
        clear H; have H := H1; clear H1; have H' := Aside0.mk H; clear H; have hcz15_0 : w6.cell? ⟨gb139, 0, none⟩ = some (.int .i64 0) := (blk_cell BK139.out 0).trans rfl; have hcz15_1 : w6.cell? ⟨gb139, 1, none⟩ = some (.int .i64 0) := (blk_cell BK139.out 1).trans rfl; have hcz15_2 : w6.cell? ⟨gb139, 2, none⟩ = some (.int .i64 0) := (blk_cell BK139.out 2).trans rfl; have hcz15_3 : w6.cell? ⟨gb139, 3, none⟩ = some (.int .i64 0) := (blk_cell BK139.out 3).trans rfl; have hcz15_4 : w6.cell? ⟨gb139, 4, none⟩ = some (.int .i64 0) := (blk_cell BK139.out 4).trans rfl; have hfz15_0 := blk_frozen BK139.out 0; have hfz15_1 := blk_frozen BK139.out 1; have hfz15_2 := blk_frozen BK139.out 2; have hfz15_3 := blk_frozen BK139.out 3; have hfz15_4 := blk_frozen BK139.out 4
        go_wp2_with (first | ((with_reducible refine gate_callee (f := 45) rfl ?_); refine goesL_ (some 15) rfl rfl Try.func45 (by kernel_rfl) rfl #[.int .i64 ((rd_T98 l0 x8_1).f1), .int .i64 0, .int .i64 2] rfl (by (try simp only [List.map_toArray, List.map_cons, List.map_nil]); first | done | rfl | (simp only [List.length_drop, List.length_take]; rfl)) ?_; (with_reducible refine (spec_l1In.calls ((rd_T98 l0 x8_1).f1) 0 2 false _ A8.out).mono ?_); rintro e w' ⟨rfl, ⟨nd, rfl⟩⟩; refine ⟨_, rfl, ?_⟩))
        go_meet
        case rel => exact ⟨_, (true), (by first | rfl | (simp; done) | (simp [*]; done)), H', ⟨by have := HK1.out; first | omega | exact Nat.le_refl _⟩, ⟨by (with_reducible repeat (first | refine blk_drewN ?_ _ | refine blk_drew ?_ | refine blk_alloc ?_ _)); refine blk_put (cs := #[.int .i64 ((rd_T98 l0 x8_1).f0), .int .i64 ((rd_T98 l0 x8_1).f1), .int .i64 ((rd_T98 l0 x8_1).f2), .int .i64 ((rd_T98 l0 x8_1).f3), .int .i64 0]) ?_ 4 _ rfl; (with_reducible repeat (first | refine blk_drewN ?_ _ | refine blk_drew ?_ | refine blk_alloc ?_ _)); refine blk_put (cs := #[.int .i64 ((rd_T98 l0 x8_1).f0), .int .i64 ((rd_T98 l0 x8_1).f1), .int .i64 ((rd_T98 l0 x8_1).f2), .int .i64 0, .int .i64 0]) ?_ 3 _ rfl; (with_reducible repeat (first | refine blk_drewN ?_ _ | refine blk_drew ?_ | refine blk_alloc ?_ _)); refine blk_put (cs := #[.int .i64 ((rd_T98 l0 x8_1).f0), .int .i64 ((rd_T98 l0 x8_1).f1), .int .i64 0, .int .i64 0, .int .i64 0]) ?_ 2 _ rfl; (with_reducible repeat (first | refine blk_drewN ?_ _ | refine blk_drew ?_ | refine blk_alloc ?_ _)); refine blk_put (cs := #[.int .i64 ((rd_T98 l0 x8_1).f0), .int .i64 0, .int .i64 0, .int .i64 0, .int .i64 0]) ?_ 1 _ rfl; (with_reducible repeat (first | refine blk_drewN ?_ _ | refine blk_drew ?_ | refine blk_alloc ?_ _)); refine blk_put (cs := #[.int .i64 0, .int .i64 0, .int .i64 0, .int .i64 0, .int .i64 0]) ?_ 0 _ rfl; (with_reducible repeat (first | refine blk_drewN ?_ _ | refine blk_drew ?_ | refine blk_alloc ?_ _)); exact BK139.out⟩, ⟨by repeat (first | (with_reducible first | exact HB.out | apply below_alloc | apply pw_below_drewN | apply below_drew1 | refine below_set ?_ GE139.out) | exact HB.out)⟩⟩
      case rest =>
       clear HC5
       try clear c1
       try clear p1
       try clear q1
       try clear hx1
       try clear c2
       try clear c2b0
       try clear p2
       try clear c3
       try clear c3b0
       try clear c4
       try clear c4b0
       try clear c7
       try clear c9
       try clear c11
       try clear p13
       try clear q13
       try clear hx13
       try clear hcz13_0
       try clear hcz13_1
       try clear hcz13_2
       try clear hcz13_3
       try clear hcz13_4
       try clear hcz14_0
       try clear hcz14_1
       try clear hcz14_2
       try clear hcz14_3
       try clear hcz14_4
       try clear hcz15_0
       try clear hcz15_1
       try clear hcz15_2
       try clear hcz15_3
       try clear hcz15_4
       try clear hcz7_0
       try clear hcz7_1
       try clear hcz7_2
       try clear hcz7_3
       try clear hcz7_4
       try clear hfz13_0
       try clear hfz13_1
       try clear hfz13_2
       try clear hfz13_3
       try clear hfz13_4
       try clear hfz14_0
       try clear hfz14_1
       try clear hfz14_2
       try clear hfz14_3
       try clear hfz14_4
       try clear hfz15_0
       try clear hfz15_1
       try clear hfz15_2
       try clear hfz15_3
       try clear hfz15_4
       try clear hfz7_0
       try clear hfz7_1
       try clear hfz7_2
       try clear hfz7_3
       try clear hfz7_4
       try clear hx138_0
       try clear hx138_1
       try clear hx138_2
       try clear hx138_3
       try clear hx138_4
       try clear p138
       try clear q138
       obtain ⟨kq, x28_4, rfl, HA, HJ4, BK139, HB⟩ := hcut; cases kq with
       | zero => exact absurd HA.out (by simp [spec_GoodSteps.j1])
       | succ kj4 =>
        have H := HA.out; clear HA
        simp only [spec_GoodSteps.j1] at H
        by_cases c16 : x28_4 = true
        ·subst c16
         have H1 : (some false) = some r := by rw [if_pos rfl] at H; exact H
         clear H; have H := H1; clear H1; obtain rfl := Option.some.inj H
         go_wp2
         go_ret
         exact ⟨by first | rfl | (simp [errW_none, errW_some] <;> rfl) | (simp [*, errW_none, errW_some] <;> rfl), by repeat (first | (with_reducible first | exact HB.out | apply below_alloc | apply pw_below_drewN | apply below_drew1 | refine below_set ?_ GE139.out) | exact HB.out)⟩
        ·replace c16 := Bool.eq_false_iff.mpr c16
         subst c16; have H1 : ((spec_l1In.f ((rd_T98 l0 x8_1).f3) 0 (wrap64 (x8_1 - 1))).bind fun t143 => (if ((rd_T98 l0 x8_1).f0) = 1 then (if ((rd_T98 l0 x8_1).f3) = 0 then (if ((rd_T98 l0 x8_1).f4) = 0 then (spec_GoodSteps.l0 kj4 l0 l0 (l0.length : Int) (wrap64 (x8_1 + 1))) else (some false)) else (some false)) else (if ((rd_T98 l0 x8_1).f0) = 2 then (if t143 = true then (if ((rd_T98 l0 x8_1).f2) = 0 then (spec_GoodSteps.l0 kj4 l0 l0 (l0.length : Int) (wrap64 (x8_1 + 1))) else (some false)) else (some false)) else (if ((rd_T98 l0 x8_1).f0) = 3 then (if t143 = true then (if ((rd_T98 l0 x8_1).f4) = 0 then (spec_GoodSteps.l0 kj4 l0 l0 (l0.length : Int) (wrap64 (x8_1 + 1))) else (some false)) else (some false)) else (some false))))) = some r := by rw [if_neg (show ¬ (false = true) by decide)] at H; exact H
         clear H; have H := H1; clear H1; replace H := Option.bind_eq_some_iff.mp H; obtain ⟨t143, A170, H⟩ := H; replace H : (if ((rd_T98 l0 x8_1).f0) = 1 then (if ((rd_T98 l0 x8_1).f3) = 0 then (if ((rd_T98 l0 x8_1).f4) = 0 then (spec_GoodSteps.l0 kj4 l0 l0 (l0.length : Int) (wrap64 (x8_1 + 1))) else (some false)) else (some false)) else (if ((rd_T98 l0 x8_1).f0) = 2 then (if t143 = true then (if ((rd_T98 l0 x8_1).f2) = 0 then (spec_GoodSteps.l0 kj4 l0 l0 (l0.length : Int) (wrap64 (x8_1 + 1))) else (some false)) else (some false)) else (if ((rd_T98 l0 x8_1).f0) = 3 then (if t143 = true then (if ((rd_T98 l0 x8_1).f4) = 0 then (spec_GoodSteps.l0 kj4 l0 l0 (l0.length : Int) (wrap64 (x8_1 + 1))) else (some false)) else (some false)) else (some false)))) = some r := H; have A17 := Aside0.mk A170; clear A170
         by_cases c18 : ((rd_T98 l0 x8_1).f0) = 1
         ·rw [if_pos c18] at H
          have c18b0 : (((rd_T98 l0 x8_1).f0) == 1) = true := beq_iff_eq.mpr c18; have c18b1 : (((rd_T98 l0 x8_1).f0) != 1) = false := bne_eq_false_iff_eq.mpr c18; clear c18
          by_cases c19 : ((rd_T98 l0 x8_1).f3) = 0
          ·rw [if_pos c19] at H
           have c19b0 : (((rd_T98 l0 x8_1).f3) == 0) = true := beq_iff_eq.mpr c19; have c19b1 : (((rd_T98 l0 x8_1).f3) != 0) = false := bne_eq_false_iff_eq.mpr c19; clear c19
           by_cases c20 : ((rd_T98 l0 x8_1).f4) = 0
           ·rw [if_pos c20] at H
            have c20b0 : (((rd_T98 l0 x8_1).f4) == 0) = true := beq_iff_eq.mpr c20; have c20b1 : (((rd_T98 l0 x8_1).f4) != 0) = false := bne_eq_false_iff_eq.mpr c20; clear c20; have H' := Aside0.mk H; clear H; have hcz21_0 : wc.cell? ⟨gb139, 0, none⟩ = some (.int .i64 ((rd_T98 l0 x8_1).f0)) := (blk_cell BK139.out 0).trans rfl; have hcz21_1 : wc.cell? ⟨gb139, 1, none⟩ = some (.int .i64 ((rd_T98 l0 x8_1).f1)) := (blk_cell BK139.out 1).trans rfl; have hcz21_2 : wc.cell? ⟨gb139, 2, none⟩ = some (.int .i64 ((rd_T98 l0 x8_1).f2)) := (blk_cell BK139.out 2).trans rfl; have hcz21_3 : wc.cell? ⟨gb139, 3, none⟩ = some (.int .i64 ((rd_T98 l0 x8_1).f3)) := (blk_cell BK139.out 3).trans rfl; have hcz21_4 : wc.cell? ⟨gb139, 4, none⟩ = some (.int .i64 ((rd_T98 l0 x8_1).f4)) := (blk_cell BK139.out 4).trans rfl; have hfz21_0 := blk_frozen BK139.out 0; have hfz21_1 := blk_frozen BK139.out 1; have hfz21_2 := blk_frozen BK139.out 2; have hfz21_3 := blk_frozen BK139.out 3; have hfz21_4 := blk_frozen BK139.out 4
            go_wp2_with (first | ((with_reducible refine gate_callee (f := 45) rfl ?_); refine goesL_ (some 33) rfl rfl Try.func45 (by kernel_rfl) rfl #[.int .i64 ((rd_T98 l0 x8_1).f3), .int .i64 0, .int .i64 (wrap64 (x8_1 - 1))] rfl (by (try simp only [List.map_toArray, List.map_cons, List.map_nil]); first | done | rfl | (simp only [List.length_drop, List.length_take]; rfl)) ?_; (with_reducible refine (spec_l1In.calls ((rd_T98 l0 x8_1).f3) 0 (wrap64 (x8_1 - 1)) t143 _ A17.out).mono ?_); rintro e w' ⟨rfl, ⟨nd, rfl⟩⟩; refine ⟨_, rfl, ?_⟩))
            go_roundg kj4
            case measure => have := HK1.out; have := HJ4.out; omega
            case rel => exact ⟨(wrap64 (x8_1 + 1)), (by first | rfl | (simp; done) | (simp [*]; done)), H', ⟨by have := HK1.out; have := HJ4.out; omega⟩, ⟨by repeat (first | (with_reducible first | exact HB.out | apply below_alloc | apply pw_below_drewN | apply below_drew1 | refine below_set ?_ GE139.out) | exact HB.out)⟩⟩
           ·rw [if_neg c20] at H
            have c20b0 : (((rd_T98 l0 x8_1).f4) == 0) = false := beq_eq_false_iff_ne.mpr c20; have c20b1 : (((rd_T98 l0 x8_1).f4) != 0) = true := bne_iff_ne.mpr c20; obtain rfl := Option.some.inj H; have hcz22_0 : wc.cell? ⟨gb139, 0, none⟩ = some (.int .i64 ((rd_T98 l0 x8_1).f0)) := (blk_cell BK139.out 0).trans rfl; have hcz22_1 : wc.cell? ⟨gb139, 1, none⟩ = some (.int .i64 ((rd_T98 l0 x8_1).f1)) := (blk_cell BK139.out 1).trans rfl; have hcz22_2 : wc.cell? ⟨gb139, 2, none⟩ = some (.int .i64 ((rd_T98 l0 x8_1).f2)) := (blk_cell BK139.out 2).trans rfl; have hcz22_3 : wc.cell? ⟨gb139, 3, none⟩ = some (.int .i64 ((rd_T98 l0 x8_1).f3)) := (blk_cell BK139.out 3).trans rfl; have hcz22_4 : wc.cell? ⟨gb139, 4, none⟩ = some (.int .i64 ((rd_T98 l0 x8_1).f4)) := (blk_cell BK139.out 4).trans rfl; have hfz22_0 := blk_frozen BK139.out 0; have hfz22_1 := blk_frozen BK139.out 1; have hfz22_2 := blk_frozen BK139.out 2; have hfz22_3 := blk_frozen BK139.out 3; have hfz22_4 := blk_frozen BK139.out 4
            go_wp2_with (first | ((with_reducible refine gate_callee (f := 45) rfl ?_); refine goesL_ (some 33) rfl rfl Try.func45 (by kernel_rfl) rfl #[.int .i64 ((rd_T98 l0 x8_1).f3), .int .i64 0, .int .i64 (wrap64 (x8_1 - 1))] rfl (by (try simp only [List.map_toArray, List.map_cons, List.map_nil]); first | done | rfl | (simp only [List.length_drop, List.length_take]; rfl)) ?_; (with_reducible refine (spec_l1In.calls ((rd_T98 l0 x8_1).f3) 0 (wrap64 (x8_1 - 1)) t143 _ A17.out).mono ?_); rintro e w' ⟨rfl, ⟨nd, rfl⟩⟩; refine ⟨_, rfl, ?_⟩))
            go_ret
            exact ⟨by first | rfl | (simp [errW_none, errW_some] <;> rfl) | (simp [*, errW_none, errW_some] <;> rfl), by repeat (first | (with_reducible first | exact HB.out | apply below_alloc | apply pw_below_drewN | apply below_drew1 | refine below_set ?_ GE139.out) | exact HB.out)⟩
          ·rw [if_neg c19] at H
           have c19b0 : (((rd_T98 l0 x8_1).f3) == 0) = false := beq_eq_false_iff_ne.mpr c19; have c19b1 : (((rd_T98 l0 x8_1).f3) != 0) = true := bne_iff_ne.mpr c19; obtain rfl := Option.some.inj H; have hcz23_0 : wc.cell? ⟨gb139, 0, none⟩ = some (.int .i64 ((rd_T98 l0 x8_1).f0)) := (blk_cell BK139.out 0).trans rfl; have hcz23_1 : wc.cell? ⟨gb139, 1, none⟩ = some (.int .i64 ((rd_T98 l0 x8_1).f1)) := (blk_cell BK139.out 1).trans rfl; have hcz23_2 : wc.cell? ⟨gb139, 2, none⟩ = some (.int .i64 ((rd_T98 l0 x8_1).f2)) := (blk_cell BK139.out 2).trans rfl; have hcz23_3 : wc.cell? ⟨gb139, 3, none⟩ = some (.int .i64 ((rd_T98 l0 x8_1).f3)) := (blk_cell BK139.out 3).trans rfl; have hcz23_4 : wc.cell? ⟨gb139, 4, none⟩ = some (.int .i64 ((rd_T98 l0 x8_1).f4)) := (blk_cell BK139.out 4).trans rfl; have hfz23_0 := blk_frozen BK139.out 0; have hfz23_1 := blk_frozen BK139.out 1; have hfz23_2 := blk_frozen BK139.out 2; have hfz23_3 := blk_frozen BK139.out 3; have hfz23_4 := blk_frozen BK139.out 4
           go_wp2_with (first | ((with_reducible refine gate_callee (f := 45) rfl ?_); refine goesL_ (some 33) rfl rfl Try.func45 (by kernel_rfl) rfl #[.int .i64 ((rd_T98 l0 x8_1).f3), .int .i64 0, .int .i64 (wrap64 (x8_1 - 1))] rfl (by (try simp only [List.map_toArray, List.map_cons, List.map_nil]); first | done | rfl | (simp only [List.length_drop, List.length_take]; rfl)) ?_; (with_reducible refine (spec_l1In.calls ((rd_T98 l0 x8_1).f3) 0 (wrap64 (x8_1 - 1)) t143 _ A17.out).mono ?_); rintro e w' ⟨rfl, ⟨nd, rfl⟩⟩; refine ⟨_, rfl, ?_⟩))
           go_ret
           exact ⟨by first | rfl | (simp [errW_none, errW_some] <;> rfl) | (simp [*, errW_none, errW_some] <;> rfl), by repeat (first | (with_reducible first | exact HB.out | apply below_alloc | apply pw_below_drewN | apply below_drew1 | refine below_set ?_ GE139.out) | exact HB.out)⟩
         ·rw [if_neg c18] at H
          have c18b0 : (((rd_T98 l0 x8_1).f0) == 1) = false := beq_eq_false_iff_ne.mpr c18; have c18b1 : (((rd_T98 l0 x8_1).f0) != 1) = true := bne_iff_ne.mpr c18
          by_cases c24 : ((rd_T98 l0 x8_1).f0) = 2
          ·rw [if_pos c24] at H
           have c24b0 : (((rd_T98 l0 x8_1).f0) == 2) = true := beq_iff_eq.mpr c24; have c24b1 : (((rd_T98 l0 x8_1).f0) != 2) = false := bne_eq_false_iff_eq.mpr c24; clear c24
           by_cases c25 : t143 = true
           ·subst c25
            have H1 : (if ((rd_T98 l0 x8_1).f2) = 0 then (spec_GoodSteps.l0 kj4 l0 l0 (l0.length : Int) (wrap64 (x8_1 + 1))) else (some false)) = some r := by rw [if_pos rfl] at H; exact H
            clear H; have H := H1; clear H1
            by_cases c26 : ((rd_T98 l0 x8_1).f2) = 0
            ·rw [if_pos c26] at H
             have c26b0 : (((rd_T98 l0 x8_1).f2) == 0) = true := beq_iff_eq.mpr c26; have c26b1 : (((rd_T98 l0 x8_1).f2) != 0) = false := bne_eq_false_iff_eq.mpr c26; clear c26; have H' := Aside0.mk H; clear H; have hcz27_0 : wc.cell? ⟨gb139, 0, none⟩ = some (.int .i64 ((rd_T98 l0 x8_1).f0)) := (blk_cell BK139.out 0).trans rfl; have hcz27_1 : wc.cell? ⟨gb139, 1, none⟩ = some (.int .i64 ((rd_T98 l0 x8_1).f1)) := (blk_cell BK139.out 1).trans rfl; have hcz27_2 : wc.cell? ⟨gb139, 2, none⟩ = some (.int .i64 ((rd_T98 l0 x8_1).f2)) := (blk_cell BK139.out 2).trans rfl; have hcz27_3 : wc.cell? ⟨gb139, 3, none⟩ = some (.int .i64 ((rd_T98 l0 x8_1).f3)) := (blk_cell BK139.out 3).trans rfl; have hcz27_4 : wc.cell? ⟨gb139, 4, none⟩ = some (.int .i64 ((rd_T98 l0 x8_1).f4)) := (blk_cell BK139.out 4).trans rfl; have hfz27_0 := blk_frozen BK139.out 0; have hfz27_1 := blk_frozen BK139.out 1; have hfz27_2 := blk_frozen BK139.out 2; have hfz27_3 := blk_frozen BK139.out 3; have hfz27_4 := blk_frozen BK139.out 4
             go_wp2_with (first | ((with_reducible refine gate_callee (f := 45) rfl ?_); refine goesL_ (some 33) rfl rfl Try.func45 (by kernel_rfl) rfl #[.int .i64 ((rd_T98 l0 x8_1).f3), .int .i64 0, .int .i64 (wrap64 (x8_1 - 1))] rfl (by (try simp only [List.map_toArray, List.map_cons, List.map_nil]); first | done | rfl | (simp only [List.length_drop, List.length_take]; rfl)) ?_; (with_reducible refine (spec_l1In.calls ((rd_T98 l0 x8_1).f3) 0 (wrap64 (x8_1 - 1)) true _ A17.out).mono ?_); rintro e w' ⟨rfl, ⟨nd, rfl⟩⟩; refine ⟨_, rfl, ?_⟩))
             go_roundg kj4
             case measure => have := HK1.out; have := HJ4.out; omega
             case rel => exact ⟨(wrap64 (x8_1 + 1)), (by first | rfl | (simp; done) | (simp [*]; done)), H', ⟨by have := HK1.out; have := HJ4.out; omega⟩, ⟨by repeat (first | (with_reducible first | exact HB.out | apply below_alloc | apply pw_below_drewN | apply below_drew1 | refine below_set ?_ GE139.out) | exact HB.out)⟩⟩
            ·rw [if_neg c26] at H
             have c26b0 : (((rd_T98 l0 x8_1).f2) == 0) = false := beq_eq_false_iff_ne.mpr c26; have c26b1 : (((rd_T98 l0 x8_1).f2) != 0) = true := bne_iff_ne.mpr c26; obtain rfl := Option.some.inj H; have hcz28_0 : wc.cell? ⟨gb139, 0, none⟩ = some (.int .i64 ((rd_T98 l0 x8_1).f0)) := (blk_cell BK139.out 0).trans rfl; have hcz28_1 : wc.cell? ⟨gb139, 1, none⟩ = some (.int .i64 ((rd_T98 l0 x8_1).f1)) := (blk_cell BK139.out 1).trans rfl; have hcz28_2 : wc.cell? ⟨gb139, 2, none⟩ = some (.int .i64 ((rd_T98 l0 x8_1).f2)) := (blk_cell BK139.out 2).trans rfl; have hcz28_3 : wc.cell? ⟨gb139, 3, none⟩ = some (.int .i64 ((rd_T98 l0 x8_1).f3)) := (blk_cell BK139.out 3).trans rfl; have hcz28_4 : wc.cell? ⟨gb139, 4, none⟩ = some (.int .i64 ((rd_T98 l0 x8_1).f4)) := (blk_cell BK139.out 4).trans rfl; have hfz28_0 := blk_frozen BK139.out 0; have hfz28_1 := blk_frozen BK139.out 1; have hfz28_2 := blk_frozen BK139.out 2; have hfz28_3 := blk_frozen BK139.out 3; have hfz28_4 := blk_frozen BK139.out 4
             go_wp2_with (first | ((with_reducible refine gate_callee (f := 45) rfl ?_); refine goesL_ (some 33) rfl rfl Try.func45 (by kernel_rfl) rfl #[.int .i64 ((rd_T98 l0 x8_1).f3), .int .i64 0, .int .i64 (wrap64 (x8_1 - 1))] rfl (by (try simp only [List.map_toArray, List.map_cons, List.map_nil]); first | done | rfl | (simp only [List.length_drop, List.length_take]; rfl)) ?_; (with_reducible refine (spec_l1In.calls ((rd_T98 l0 x8_1).f3) 0 (wrap64 (x8_1 - 1)) true _ A17.out).mono ?_); rintro e w' ⟨rfl, ⟨nd, rfl⟩⟩; refine ⟨_, rfl, ?_⟩))
             go_ret
             exact ⟨by first | rfl | (simp [errW_none, errW_some] <;> rfl) | (simp [*, errW_none, errW_some] <;> rfl), by repeat (first | (with_reducible first | exact HB.out | apply below_alloc | apply pw_below_drewN | apply below_drew1 | refine below_set ?_ GE139.out) | exact HB.out)⟩
           ·replace c25 := Bool.eq_false_iff.mpr c25
            subst c25; have H1 : (some false) = some r := by rw [if_neg (show ¬ (false = true) by decide)] at H; exact H
            clear H; have H := H1; clear H1; obtain rfl := Option.some.inj H; have hcz29_0 : wc.cell? ⟨gb139, 0, none⟩ = some (.int .i64 ((rd_T98 l0 x8_1).f0)) := (blk_cell BK139.out 0).trans rfl; have hcz29_1 : wc.cell? ⟨gb139, 1, none⟩ = some (.int .i64 ((rd_T98 l0 x8_1).f1)) := (blk_cell BK139.out 1).trans rfl; have hcz29_2 : wc.cell? ⟨gb139, 2, none⟩ = some (.int .i64 ((rd_T98 l0 x8_1).f2)) := (blk_cell BK139.out 2).trans rfl; have hcz29_3 : wc.cell? ⟨gb139, 3, none⟩ = some (.int .i64 ((rd_T98 l0 x8_1).f3)) := (blk_cell BK139.out 3).trans rfl; have hcz29_4 : wc.cell? ⟨gb139, 4, none⟩ = some (.int .i64 ((rd_T98 l0 x8_1).f4)) := (blk_cell BK139.out 4).trans rfl; have hfz29_0 := blk_frozen BK139.out 0; have hfz29_1 := blk_frozen BK139.out 1; have hfz29_2 := blk_frozen BK139.out 2; have hfz29_3 := blk_frozen BK139.out 3; have hfz29_4 := blk_frozen BK139.out 4
            go_wp2_with (first | ((with_reducible refine gate_callee (f := 45) rfl ?_); refine goesL_ (some 33) rfl rfl Try.func45 (by kernel_rfl) rfl #[.int .i64 ((rd_T98 l0 x8_1).f3), .int .i64 0, .int .i64 (wrap64 (x8_1 - 1))] rfl (by (try simp only [List.map_toArray, List.map_cons, List.map_nil]); first | done | rfl | (simp only [List.length_drop, List.length_take]; rfl)) ?_; (with_reducible refine (spec_l1In.calls ((rd_T98 l0 x8_1).f3) 0 (wrap64 (x8_1 - 1)) false _ A17.out).mono ?_); rintro e w' ⟨rfl, ⟨nd, rfl⟩⟩; refine ⟨_, rfl, ?_⟩))
            go_ret
            exact ⟨by first | rfl | (simp [errW_none, errW_some] <;> rfl) | (simp [*, errW_none, errW_some] <;> rfl), by repeat (first | (with_reducible first | exact HB.out | apply below_alloc | apply pw_below_drewN | apply below_drew1 | refine below_set ?_ GE139.out) | exact HB.out)⟩
          ·rw [if_neg c24] at H
           have c24b0 : (((rd_T98 l0 x8_1).f0) == 2) = false := beq_eq_false_iff_ne.mpr c24; have c24b1 : (((rd_T98 l0 x8_1).f0) != 2) = true := bne_iff_ne.mpr c24
           by_cases c30 : ((rd_T98 l0 x8_1).f0) = 3
           ·rw [if_pos c30] at H
            have c30b0 : (((rd_T98 l0 x8_1).f0) == 3) = true := beq_iff_eq.mpr c30; have c30b1 : (((rd_T98 l0 x8_1).f0) != 3) = false := bne_eq_false_iff_eq.mpr c30; clear c30
            by_cases c31 : t143 = true
            ·subst c31
             have H1 : (if ((rd_T98 l0 x8_1).f4) = 0 then (spec_GoodSteps.l0 kj4 l0 l0 (l0.length : Int) (wrap64 (x8_1 + 1))) else (some false)) = some r := by rw [if_pos rfl] at H; exact H
             clear H; have H := H1; clear H1
             by_cases c32 : ((rd_T98 l0 x8_1).f4) = 0
             ·rw [if_pos c32] at H
              have c32b0 : (((rd_T98 l0 x8_1).f4) == 0) = true := beq_iff_eq.mpr c32; have c32b1 : (((rd_T98 l0 x8_1).f4) != 0) = false := bne_eq_false_iff_eq.mpr c32; clear c32; have H' := Aside0.mk H; clear H; have hcz33_0 : wc.cell? ⟨gb139, 0, none⟩ = some (.int .i64 ((rd_T98 l0 x8_1).f0)) := (blk_cell BK139.out 0).trans rfl; have hcz33_1 : wc.cell? ⟨gb139, 1, none⟩ = some (.int .i64 ((rd_T98 l0 x8_1).f1)) := (blk_cell BK139.out 1).trans rfl; have hcz33_2 : wc.cell? ⟨gb139, 2, none⟩ = some (.int .i64 ((rd_T98 l0 x8_1).f2)) := (blk_cell BK139.out 2).trans rfl; have hcz33_3 : wc.cell? ⟨gb139, 3, none⟩ = some (.int .i64 ((rd_T98 l0 x8_1).f3)) := (blk_cell BK139.out 3).trans rfl; have hcz33_4 : wc.cell? ⟨gb139, 4, none⟩ = some (.int .i64 ((rd_T98 l0 x8_1).f4)) := (blk_cell BK139.out 4).trans rfl; have hfz33_0 := blk_frozen BK139.out 0; have hfz33_1 := blk_frozen BK139.out 1; have hfz33_2 := blk_frozen BK139.out 2; have hfz33_3 := blk_frozen BK139.out 3; have hfz33_4 := blk_frozen BK139.out 4
              go_wp2_with (first | ((with_reducible refine gate_callee (f := 45) rfl ?_); refine goesL_ (some 33) rfl rfl Try.func45 (by kernel_rfl) rfl #[.int .i64 ((rd_T98 l0 x8_1).f3), .int .i64 0, .int .i64 (wrap64 (x8_1 - 1))] rfl (by (try simp only [List.map_toArray, List.map_cons, List.map_nil]); first | done | rfl | (simp only [List.length_drop, List.length_take]; rfl)) ?_; (with_reducible refine (spec_l1In.calls ((rd_T98 l0 x8_1).f3) 0 (wrap64 (x8_1 - 1)) true _ A17.out).mono ?_); rintro e w' ⟨rfl, ⟨nd, rfl⟩⟩; refine ⟨_, rfl, ?_⟩))
              go_roundg kj4
              case measure => have := HK1.out; have := HJ4.out; omega
              case rel => exact ⟨(wrap64 (x8_1 + 1)), (by first | rfl | (simp; done) | (simp [*]; done)), H', ⟨by have := HK1.out; have := HJ4.out; omega⟩, ⟨by repeat (first | (with_reducible first | exact HB.out | apply below_alloc | apply pw_below_drewN | apply below_drew1 | refine below_set ?_ GE139.out) | exact HB.out)⟩⟩
             ·rw [if_neg c32] at H
              have c32b0 : (((rd_T98 l0 x8_1).f4) == 0) = false := beq_eq_false_iff_ne.mpr c32; have c32b1 : (((rd_T98 l0 x8_1).f4) != 0) = true := bne_iff_ne.mpr c32; obtain rfl := Option.some.inj H; have hcz34_0 : wc.cell? ⟨gb139, 0, none⟩ = some (.int .i64 ((rd_T98 l0 x8_1).f0)) := (blk_cell BK139.out 0).trans rfl; have hcz34_1 : wc.cell? ⟨gb139, 1, none⟩ = some (.int .i64 ((rd_T98 l0 x8_1).f1)) := (blk_cell BK139.out 1).trans rfl; have hcz34_2 : wc.cell? ⟨gb139, 2, none⟩ = some (.int .i64 ((rd_T98 l0 x8_1).f2)) := (blk_cell BK139.out 2).trans rfl; have hcz34_3 : wc.cell? ⟨gb139, 3, none⟩ = some (.int .i64 ((rd_T98 l0 x8_1).f3)) := (blk_cell BK139.out 3).trans rfl; have hcz34_4 : wc.cell? ⟨gb139, 4, none⟩ = some (.int .i64 ((rd_T98 l0 x8_1).f4)) := (blk_cell BK139.out 4).trans rfl; have hfz34_0 := blk_frozen BK139.out 0; have hfz34_1 := blk_frozen BK139.out 1; have hfz34_2 := blk_frozen BK139.out 2; have hfz34_3 := blk_frozen BK139.out 3; have hfz34_4 := blk_frozen BK139.out 4
              go_wp2_with (first | ((with_reducible refine gate_callee (f := 45) rfl ?_); refine goesL_ (some 33) rfl rfl Try.func45 (by kernel_rfl) rfl #[.int .i64 ((rd_T98 l0 x8_1).f3), .int .i64 0, .int .i64 (wrap64 (x8_1 - 1))] rfl (by (try simp only [List.map_toArray, List.map_cons, List.map_nil]); first | done | rfl | (simp only [List.length_drop, List.length_take]; rfl)) ?_; (with_reducible refine (spec_l1In.calls ((rd_T98 l0 x8_1).f3) 0 (wrap64 (x8_1 - 1)) true _ A17.out).mono ?_); rintro e w' ⟨rfl, ⟨nd, rfl⟩⟩; refine ⟨_, rfl, ?_⟩))
              go_ret
              exact ⟨by first | rfl | (simp [errW_none, errW_some] <;> rfl) | (simp [*, errW_none, errW_some] <;> rfl), by repeat (first | (with_reducible first | exact HB.out | apply below_alloc | apply pw_below_drewN | apply below_drew1 | refine below_set ?_ GE139.out) | exact HB.out)⟩
            ·replace c31 := Bool.eq_false_iff.mpr c31
             subst c31; have H1 : (some false) = some r := by rw [if_neg (show ¬ (false = true) by decide)] at H; exact H
             clear H; have H := H1; clear H1; obtain rfl := Option.some.inj H; have hcz35_0 : wc.cell? ⟨gb139, 0, none⟩ = some (.int .i64 ((rd_T98 l0 x8_1).f0)) := (blk_cell BK139.out 0).trans rfl; have hcz35_1 : wc.cell? ⟨gb139, 1, none⟩ = some (.int .i64 ((rd_T98 l0 x8_1).f1)) := (blk_cell BK139.out 1).trans rfl; have hcz35_2 : wc.cell? ⟨gb139, 2, none⟩ = some (.int .i64 ((rd_T98 l0 x8_1).f2)) := (blk_cell BK139.out 2).trans rfl; have hcz35_3 : wc.cell? ⟨gb139, 3, none⟩ = some (.int .i64 ((rd_T98 l0 x8_1).f3)) := (blk_cell BK139.out 3).trans rfl; have hcz35_4 : wc.cell? ⟨gb139, 4, none⟩ = some (.int .i64 ((rd_T98 l0 x8_1).f4)) := (blk_cell BK139.out 4).trans rfl; have hfz35_0 := blk_frozen BK139.out 0; have hfz35_1 := blk_frozen BK139.out 1; have hfz35_2 := blk_frozen BK139.out 2; have hfz35_3 := blk_frozen BK139.out 3; have hfz35_4 := blk_frozen BK139.out 4
             go_wp2_with (first | ((with_reducible refine gate_callee (f := 45) rfl ?_); refine goesL_ (some 33) rfl rfl Try.func45 (by kernel_rfl) rfl #[.int .i64 ((rd_T98 l0 x8_1).f3), .int .i64 0, .int .i64 (wrap64 (x8_1 - 1))] rfl (by (try simp only [List.map_toArray, List.map_cons, List.map_nil]); first | done | rfl | (simp only [List.length_drop, List.length_take]; rfl)) ?_; (with_reducible refine (spec_l1In.calls ((rd_T98 l0 x8_1).f3) 0 (wrap64 (x8_1 - 1)) false _ A17.out).mono ?_); rintro e w' ⟨rfl, ⟨nd, rfl⟩⟩; refine ⟨_, rfl, ?_⟩))
             go_ret
             exact ⟨by first | rfl | (simp [errW_none, errW_some] <;> rfl) | (simp [*, errW_none, errW_some] <;> rfl), by repeat (first | (with_reducible first | exact HB.out | apply below_alloc | apply pw_below_drewN | apply below_drew1 | refine below_set ?_ GE139.out) | exact HB.out)⟩
           ·rw [if_neg c30] at H
            have c30b0 : (((rd_T98 l0 x8_1).f0) == 3) = false := beq_eq_false_iff_ne.mpr c30; have c30b1 : (((rd_T98 l0 x8_1).f0) != 3) = true := bne_iff_ne.mpr c30; obtain rfl := Option.some.inj H; have hcz36_0 : wc.cell? ⟨gb139, 0, none⟩ = some (.int .i64 ((rd_T98 l0 x8_1).f0)) := (blk_cell BK139.out 0).trans rfl; have hcz36_1 : wc.cell? ⟨gb139, 1, none⟩ = some (.int .i64 ((rd_T98 l0 x8_1).f1)) := (blk_cell BK139.out 1).trans rfl; have hcz36_2 : wc.cell? ⟨gb139, 2, none⟩ = some (.int .i64 ((rd_T98 l0 x8_1).f2)) := (blk_cell BK139.out 2).trans rfl; have hcz36_3 : wc.cell? ⟨gb139, 3, none⟩ = some (.int .i64 ((rd_T98 l0 x8_1).f3)) := (blk_cell BK139.out 3).trans rfl; have hcz36_4 : wc.cell? ⟨gb139, 4, none⟩ = some (.int .i64 ((rd_T98 l0 x8_1).f4)) := (blk_cell BK139.out 4).trans rfl; have hfz36_0 := blk_frozen BK139.out 0; have hfz36_1 := blk_frozen BK139.out 1; have hfz36_2 := blk_frozen BK139.out 2; have hfz36_3 := blk_frozen BK139.out 3; have hfz36_4 := blk_frozen BK139.out 4
            go_wp2_with (first | ((with_reducible refine gate_callee (f := 45) rfl ?_); refine goesL_ (some 33) rfl rfl Try.func45 (by kernel_rfl) rfl #[.int .i64 ((rd_T98 l0 x8_1).f3), .int .i64 0, .int .i64 (wrap64 (x8_1 - 1))] rfl (by (try simp only [List.map_toArray, List.map_cons, List.map_nil]); first | done | rfl | (simp only [List.length_drop, List.length_take]; rfl)) ?_; (with_reducible refine (spec_l1In.calls ((rd_T98 l0 x8_1).f3) 0 (wrap64 (x8_1 - 1)) t143 _ A17.out).mono ?_); rintro e w' ⟨rfl, ⟨nd, rfl⟩⟩; refine ⟨_, rfl, ?_⟩))
            go_ret
            exact ⟨by first | rfl | (simp [errW_none, errW_some] <;> rfl) | (simp [*, errW_none, errW_some] <;> rfl), by repeat (first | (with_reducible first | exact HB.out | apply below_alloc | apply pw_below_drewN | apply below_drew1 | refine below_set ?_ GE139.out) | exact HB.out)⟩
     ·rw [if_neg c4] at H
      exact absurd H (by simp)
    ·rw [if_neg c3] at H
     exact absurd H (by simp)
   ·rw [if_neg c2] at H
    have c2b0 : decide (x8_1 < (l0.length : Int)) = false := decide_eq_false c2; clear c2; obtain rfl := Option.some.inj H
    go_wp2
    go_ret
    exact ⟨by first | rfl | (simp [errW_none, errW_some] <;> rfl) | (simp [*, errW_none, errW_some] <;> rfl), by repeat first | exact HB.out | apply below_alloc | apply pw_below_drewN | apply below_drew1⟩
end Go.Proofs.Ytbaojaadmooogaa.PFnExactRunPieces
