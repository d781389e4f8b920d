import Derived.Test.YtbaojaadmooogaaPFnExactRunPiecesx0
import Derived.Test.YtbaojaadmooogaaPFnExactRunPiecesx2
namespace Go.Proofs.Ytbaojaadmooogaa.PFnExactRunPieces
set_option maxHeartbeats 8000000
set_option maxRecDepth 100000
open Go.RowKit Go.Proofs.YtbaojaadmooogaaW.PrintWords Go.Proofs.YtbaojaadmooogaaW.PrintLast Go.Proofs.YtbaojaadmooogaaW.PrintMore
attribute [local go_sem] max2_int min2_int max_two min_two max_three min_three max_four min_four
set_option linter.unusedVariables false
set_option linter.unusedSimpArgs false
def spec_l1All.l0 : Nat → Int → Int → List Int → Int → Int → Option (Bool)
 | 0, _, _, _, _, _ => none
 | k + 1, x1, x2, x9, x10, x11 => if x11 < x10 then (if 0 ≤ x11 then (if x11 < (x9.length : Int) then ((spec_l1In.f (rd x9 x11) x1 x2).bind fun t203 => (if t203 = true then (spec_l1All.l0 k x1 x2 x9 x10 (wrap64 (x11 + 1))) else (some false))) else (none)) else (none)) else (some true)
def spec_l1All.f (k : Nat) (l0 : List Int) (a1 : Int) (a2 : Int) : Option (Bool) := spec_l1All.l0 k a1 a2 l0 (l0.length : Int) 0
theorem spec_l1All.mono_l : ∀ k, (∀ y0 y1 y2 y3 y4, LeO (spec_l1All.l0 k y0 y1 y2 y3 y4) (spec_l1All.l0 (k + 1) y0 y1 y2 y3 y4))
 | 0 => fun _ _ _ _ _ r h => by simp [spec_l1All.l0] at h
 | k + 1 => by
  have ih0 := spec_l1All.mono_l k
  ·intro y0 y1 y2 y3 y4
   unfold spec_l1All.l0
   repeat' first
   | (with_reducible exact ih0 _ _ _ _ _)
   | (with_reducible exact LeO.refl _)
   | (with_reducible exact LeO.none _)
   | (with_reducible refine LeO.ite ?_ ?_)
   | (with_reducible refine LeO.bind ?_ (fun _ => ?_))
   | exact ih0 _ _ _ _ _
   | exact LeO.none _
   | refine LeO.ite ?_ ?_
   | refine LeO.bind ?_ (fun _ => ?_)
theorem spec_l1All.mono : ∀ a0 a1 a2 k, LeO (spec_l1All.f k a0 a1 a2) (spec_l1All.f (k + 1) a0 a1 a2) := by
 intro a0 a1 a2 k; have ih0 := spec_l1All.mono_l k
 unfold spec_l1All.f
 repeat' first
   | (with_reducible exact ih0 _ _ _ _ _)
   | (with_reducible exact LeO.refl _)
   | (with_reducible exact LeO.none _)
   | (with_reducible refine LeO.ite ?_ ?_)
   | (with_reducible refine LeO.bind ?_ (fun _ => ?_))
   | exact ih0 _ _ _ _ _
   | exact LeO.none _
   | refine LeO.ite ?_ ?_
   | refine LeO.bind ?_ (fun _ => ?_)
theorem spec_l1All.calls (k : Nat) (A0 : Option Addr) (c0 : Nat) (l0 : List Int) (a1 : Int) (a2 : Int) (r : Bool) (w : World) (hr0 : Kd.C (Kd.int .i64) w A0 l0.length l0) (hc0 : l0.length ≤ c0) (h : spec_l1All.f k l0 a1 a2 = some r) :
  Calls Try.prog 53 #[.slice A0 l0.length c0, .int .i64 a1, .int .i64 a2] w fun e w' => e = .returned (.bool r) ∧ Drawn0 w w' := by
 have HR0 := Aside0.mk hr0; have HC0 := Aside0.mk hc0; clear hr0 hc0; have H : (spec_l1All.l0 k a1 a2 l0 (l0.length : Int) 0) = some r := h; clear h; have H' := Aside0.mk H; clear H
 go_enter Try.func53, Try.ntmps53
 go_wp2
 go_loopg [11] k (fun kq v11 w' => ∃ (x11_1 : Int), v11 = .int .i64 x11_1 ∧ Aside0 (spec_l1All.l0 kq a1 a2 l0 (l0.length : Int) x11_1 = some r) ∧ Aside0 (kq ≤ k) ∧ Drawn0 w w')
 case atStart => exact ⟨(0), (by first | rfl | (simp; done) | (simp [*]; done)), H', ⟨Nat.le_refl _⟩, by repeat (first | exact Drawn0.refl _ | apply Drawn0.step)⟩
 case round =>
  clear H'
  try clear p2
  obtain ⟨x11_1, rfl, HA, HK1, ⟨m1, rfl⟩⟩ := hrel; cases gk with
  | zero => exact absurd HA.out (by simp [spec_l1All.l0])
  | succ k1 =>
   have H := HA.out; clear HA
   simp only [spec_l1All.l0] at H
   by_cases c4 : x11_1 < (l0.length : Int)
   ·rw [if_pos c4] at H
    have c4b0 : decide (x11_1 < (l0.length : Int)) = true := decide_eq_true c4; clear c4
    by_cases c5 : 0 ≤ x11_1
    ·rw [if_pos c5] at H
     have c5b0 : decide (0 ≤ x11_1) = true := decide_eq_true c5; clear c5
     by_cases c6 : x11_1 < (l0.length : Int)
     ·rw [if_pos c6] at H
      have c6b0 : decide (x11_1 < (l0.length : Int)) = true := decide_eq_true c6; clear c6; replace H := Option.bind_eq_some_iff.mp H; obtain ⟨t203, A70, H⟩ := H; replace H : (if t203 = true then (spec_l1All.l0 k1 a1 a2 l0 (l0.length : Int) (wrap64 (x11_1 + 1))) else (some false)) = some r := H; have A7 := Aside0.mk A70; clear A70
      by_cases c8 : t203 = true
      ·subst c8
       have H1 : (spec_l1All.l0 k1 a1 a2 l0 (l0.length : Int) (wrap64 (x11_1 + 1))) = some r := by rw [if_pos rfl] at H; exact H
       clear H; have H := H1; clear H1; have H' := Aside0.mk H; clear H; have p202 : 0 ≤ (x11_1 : Int) := of_decide_eq_true (by first | (with_reducible assumption) | assumption); have q202 : x11_1 < (l0.length : Int) := of_decide_eq_true (by first | (with_reducible assumption) | assumption); obtain ⟨ad202, e202, hx202_0⟩ := Kd.at_int HR0.out x11_1 p202 q202; cases e202; replace p202 := eq_true p202; replace q202 := eq_true q202
       go_wp2_with (first | ((with_reducible refine gate_callee (f := 45) rfl ?_); refine goesL_ (some 18) rfl rfl Try.func45 (by kernel_rfl) rfl #[.int .i64 (rd l0 x11_1), .int .i64 a1, .int .i64 a2] rfl (by (try simp only [List.map_toArray, List.map_cons, List.map_nil]); first | done | rfl | (simp only [List.length_drop, List.length_take]; rfl)) ?_; (with_reducible refine (spec_l1In.calls (rd l0 x11_1) a1 a2 true _ A7.out).mono ?_); rintro e w' ⟨rfl, ⟨nd, rfl⟩⟩; refine ⟨_, rfl, ?_⟩))
       go_roundg k1
       case measure => have := HK1.out; omega
       case rel => exact ⟨(wrap64 (x11_1 + 1)), (by first | rfl | (simp; done) | (simp [*]; done)), H', ⟨by have := HK1.out; omega⟩, by repeat (first | exact Drawn0.refl _ | apply Drawn0.step)⟩
      ·replace c8 := Bool.eq_false_iff.mpr c8
       subst c8; have H1 : (some false) = some r := by rw [if_neg (show ¬ (false = true) by decide)] at H; exact H
       clear H; have H := H1; clear H1; obtain rfl := Option.some.inj H; have p202 : 0 ≤ (x11_1 : Int) := of_decide_eq_true (by first | (with_reducible assumption) | assumption); have q202 : x11_1 < (l0.length : Int) := of_decide_eq_true (by first | (with_reducible assumption) | assumption); obtain ⟨ad202, e202, hx202_0⟩ := Kd.at_int HR0.out x11_1 p202 q202; cases e202; replace p202 := eq_true p202; replace q202 := eq_true q202
       go_wp2_with (first | ((with_reducible refine gate_callee (f := 45) rfl ?_); refine goesL_ (some 18) rfl rfl Try.func45 (by kernel_rfl) rfl #[.int .i64 (rd l0 x11_1), .int .i64 a1, .int .i64 a2] rfl (by (try simp only [List.map_toArray, List.map_cons, List.map_nil]); first | done | rfl | (simp only [List.length_drop, List.length_take]; rfl)) ?_; (with_reducible refine (spec_l1In.calls (rd l0 x11_1) a1 a2 false _ A7.out).mono ?_); rintro e w' ⟨rfl, ⟨nd, rfl⟩⟩; refine ⟨_, rfl, ?_⟩))
       go_ret
       exact ⟨by first | rfl | (simp; done) | (simp [*]; done), by repeat (first | exact Drawn0.refl _ | apply Drawn0.step)⟩
     ·rw [if_neg c6] at H
      exact absurd H (by simp)
    ·rw [if_neg c5] at H
     exact absurd H (by simp)
   ·rw [if_neg c4] at H
    have c4b0 : decide (x11_1 < (l0.length : Int)) = false := decide_eq_false c4; clear c4; obtain rfl := Option.some.inj H
    go_wp2
    go_ret
    exact ⟨by first | rfl | (simp; done) | (simp [*]; done), by repeat (first | exact Drawn0.refl _ | apply Drawn0.step)⟩
def spec_l15Store.f (k : Nat) (l0 : List Int) : Option (Bool) := if (l0.length : Int) = 12 then ((spec_l1All.f k l0 (-1000000) 1000000).bind fun t204 => (some t204)) else (some false)
theorem spec_l15Store.mono : ∀ a0 k, LeO (spec_l15Store.f k a0) (spec_l15Store.f (k + 1) a0) := by
 intro a0 k
 unfold spec_l15Store.f
 repeat' first
   | (with_reducible exact spec_l1All.mono _ _ _ _)
   | (with_reducible exact LeO.refl _)
   | (with_reducible exact LeO.none _)
   | (with_reducible refine LeO.ite ?_ ?_)
   | (with_reducible refine LeO.bind ?_ (fun _ => ?_))
   | exact spec_l1All.mono _ _ _ _
   | exact LeO.none _
   | refine LeO.ite ?_ ?_
   | refine LeO.bind ?_ (fun _ => ?_)
theorem spec_l15Store.calls (k : Nat) (A0 : Option Addr) (c0 : Nat) (l0 : List Int) (r : Bool) (w : World) (hr0 : Kd.C (Kd.int .i64) w A0 l0.length l0) (hc0 : l0.length ≤ c0) (h : spec_l15Store.f k l0 = some r) :
  Calls Try.prog 88 #[.slice A0 l0.length c0] w fun e w' => e = .returned (.bool r) ∧ Drawn0 w w' := by
 have HR0 := Aside0.mk hr0; have HC0 := Aside0.mk hc0; clear hr0 hc0; have H : (if (l0.length : Int) = 12 then ((spec_l1All.f k l0 (-1000000) 1000000).bind fun t204 => (some t204)) else (some false)) = some r := h; clear h
 by_cases c2 : (l0.length : Int) = 12
 ·rw [if_pos c2] at H
  have c2b0 : ((l0.length : Int) == 12) = true := beq_iff_eq.mpr c2; have c2b1 : ((l0.length : Int) != 12) = false := bne_eq_false_iff_eq.mpr c2; clear c2; replace H := Option.bind_eq_some_iff.mp H; obtain ⟨t204, A30, H⟩ := H; replace H : (some t204) = some r := H; have A3 := Aside0.mk A30; clear A30; obtain rfl := Option.some.inj H
  go_enter Try.func88, Try.ntmps88
  go_wp2_with (first | (go_at_call 53; (with_reducible refine (spec_l1All.calls k _ _ l0 (-1000000) 1000000 t204 _ ?side1 ?side2 A3.out).mono ?_); (case side1 => repeat (first | exact HR0.out | (with_reducible refine Kd.C_alloc ?_ _) | (with_reducible refine Kd.C_drewN ?_ _) | (with_reducible refine Kd.C_drew ?_))); (case side2 => exact HC0.out); rintro e w' ⟨rfl, ⟨nd, rfl⟩⟩))
  go_ret
  exact ⟨by first | rfl | (simp; done) | (simp [*]; done), by repeat (first | exact Drawn0.refl _ | apply Drawn0.step)⟩
 ·rw [if_neg c2] at H
  have c2b0 : ((l0.length : Int) == 12) = false := beq_eq_false_iff_ne.mpr c2; have c2b1 : ((l0.length : Int) != 12) = true := bne_iff_ne.mpr c2; obtain rfl := Option.some.inj H
  go_enter Try.func88, Try.ntmps88
  go_wp2
  go_ret
  exact ⟨by first | rfl | (simp; done) | (simp [*]; done), by repeat (first | exact Drawn0.refl _ | apply Drawn0.step)⟩
def spec_l5Sub.l0 : Nat → List Int → List Int → Int → Int → Option (Bool)
 | 0, _, _, _, _ => none
 | k + 1, x1, x7, x8, x9 => if x9 < x8 then (if 0 ≤ x9 then (if x9 < (x7.length : Int) then ((spec_l1Has.f k x1 (rd x7 x9)).bind fun t206 => (if t206 = true then (spec_l5Sub.l0 k x1 x7 x8 (wrap64 (x9 + 1))) else (some false))) else (none)) else (none)) else (some true)
def spec_l5Sub.f (k : Nat) (l0 : List Int) (l1 : List Int) : Option (Bool) := spec_l5Sub.l0 k l1 l0 (l0.length : Int) 0
theorem spec_l5Sub.mono_l : ∀ k, (∀ y0 y1 y2 y3, LeO (spec_l5Sub.l0 k y0 y1 y2 y3) (spec_l5Sub.l0 (k + 1) y0 y1 y2 y3))
 | 0 => fun _ _ _ _ r h => by simp [spec_l5Sub.l0] at h
 | k + 1 => by
  have ih0 := spec_l5Sub.mono_l k
  ·intro y0 y1 y2 y3
   unfold spec_l5Sub.l0
   repeat' first
   | (with_reducible exact ih0 _ _ _ _)
   | (with_reducible exact spec_l1Has.mono _ _ _)
   | (with_reducible exact LeO.refl _)
   | (with_reducible exact LeO.none _)
   | (with_reducible refine LeO.ite ?_ ?_)
   | (with_reducible refine LeO.bind ?_ (fun _ => ?_))
   | exact ih0 _ _ _ _
   | exact spec_l1Has.mono _ _ _
   | exact LeO.none _
   | refine LeO.ite ?_ ?_
   | refine LeO.bind ?_ (fun _ => ?_)
theorem spec_l5Sub.mono : ∀ a0 a1 k, LeO (spec_l5Sub.f k a0 a1) (spec_l5Sub.f (k + 1) a0 a1) := by
 intro a0 a1 k; have ih0 := spec_l5Sub.mono_l k
 unfold spec_l5Sub.f
 repeat' first
   | (with_reducible exact ih0 _ _ _ _)
   | (with_reducible exact spec_l1Has.mono _ _ _)
   | (with_reducible exact LeO.refl _)
   | (with_reducible exact LeO.none _)
   | (with_reducible refine LeO.ite ?_ ?_)
   | (with_reducible refine LeO.bind ?_ (fun _ => ?_))
   | exact ih0 _ _ _ _
   | exact spec_l1Has.mono _ _ _
   | exact LeO.none _
   | refine LeO.ite ?_ ?_
   | refine LeO.bind ?_ (fun _ => ?_)
theorem spec_l5Sub.calls (k : Nat) (A0 : Option Addr) (c0 : Nat) (l0 : List Int) (A1 : Option Addr) (c1 : Nat) (l1 : List Int) (r : Bool) (w : World) (hr0 : Kd.C (Kd.int .i64) w A0 l0.length l0) (hc0 : l0.length ≤ c0) (hr1 : Kd.C (Kd.int .i64) w A1 l1.length l1) (hc1 : l1.length ≤ c1) (h : spec_l5Sub.f k l0 l1 = some r) :
  Calls Try.prog 89 #[.slice A0 l0.length c0, .slice A1 l1.length c1] w fun e w' => e = .returned (.bool r) ∧ Drawn0 w w' := by
 have HR0 := Aside0.mk hr0; have HC0 := Aside0.mk hc0; clear hr0 hc0; have HR1 := Aside0.mk hr1; have HC1 := Aside0.mk hc1; clear hr1 hc1; have H : (spec_l5Sub.l0 k l1 l0 (l0.length : Int) 0) = some r := h; clear h; have H' := Aside0.mk H; clear H
 go_enter Try.func89, Try.ntmps89
 go_wp2
 go_loopg [9] k (fun kq v9 w' => ∃ (x9_1 : Int), v9 = .int .i64 x9_1 ∧ Aside0 (spec_l5Sub.l0 kq l1 l0 (l0.length : Int) x9_1 = some r) ∧ Aside0 (kq ≤ k) ∧ Drawn0 w w')
 case atStart => exact ⟨(0), (by first | rfl | (simp; done) | (simp [*]; done)), H', ⟨Nat.le_refl _⟩, by repeat (first | exact Drawn0.refl _ | apply Drawn0.step)⟩
 case round =>
  clear H'
  try clear c1
  try clear p2
  obtain ⟨x9_1, rfl, HA, HK1, ⟨m1, rfl⟩⟩ := hrel; cases gk with
  | zero => exact absurd HA.out (by simp [spec_l5Sub.l0])
  | succ k1 =>
   have H := HA.out; clear HA
   simp only [spec_l5Sub.l0] at H
   by_cases c3 : x9_1 < (l0.length : Int)
   ·rw [if_pos c3] at H
    have c3b0 : decide (x9_1 < (l0.length : Int)) = true := decide_eq_true c3; clear c3
    by_cases c4 : 0 ≤ x9_1
    ·rw [if_pos c4] at H
     have c4b0 : decide (0 ≤ x9_1) = true := decide_eq_true c4; clear c4
     by_cases c5 : x9_1 < (l0.length : Int)
     ·rw [if_pos c5] at H
      have c5b0 : decide (x9_1 < (l0.length : Int)) = true := decide_eq_true c5; clear c5; replace H := Option.bind_eq_some_iff.mp H; obtain ⟨t206, A60, H⟩ := H; replace H : (if t206 = true then (spec_l5Sub.l0 k1 l1 l0 (l0.length : Int) (wrap64 (x9_1 + 1))) else (some false)) = some r := H; have A6 := Aside0.mk A60; clear A60
      by_cases c7 : t206 = true
      ·subst c7
       have H1 : (spec_l5Sub.l0 k1 l1 l0 (l0.length : Int) (wrap64 (x9_1 + 1))) = some r := by rw [if_pos rfl] at H; exact H
       clear H; have H := H1; clear H1; have H' := Aside0.mk H; clear H; have p205 : 0 ≤ (x9_1 : Int) := of_decide_eq_true (by first | (with_reducible assumption) | assumption); have q205 : x9_1 < (l0.length : Int) := of_decide_eq_true (by first | (with_reducible assumption) | assumption); obtain ⟨ad205, e205, hx205_0⟩ := Kd.at_int HR0.out x9_1 p205 q205; cases e205; replace p205 := eq_true p205; replace q205 := eq_true q205
       go_wp2_with (first | ((with_reducible refine gate_callee (f := 54) rfl ?_); refine goesL_ (some 15) rfl rfl Try.func54 (by kernel_rfl) rfl #[.slice A1 l1.length c1, .int .i64 (rd l0 x9_1)] rfl (by (try simp only [List.map_toArray, List.map_cons, List.map_nil]); first | done | rfl | (simp only [List.length_drop, List.length_take]; rfl)) ?_; (with_reducible refine (spec_l1Has.calls k1 _ _ l1 (rd l0 x9_1) true _ ?side1 ?side2 A6.out).mono ?_); (case side1 => repeat (first | exact HR1.out | (with_reducible refine Kd.C_alloc ?_ _) | (with_reducible refine Kd.C_drewN ?_ _) | (with_reducible refine Kd.C_drew ?_))); (case side2 => exact HC1.out); rintro e w' ⟨rfl, ⟨nd, rfl⟩⟩; refine ⟨_, rfl, ?_⟩))
       go_roundg k1
       case measure => have := HK1.out; omega
       case rel => exact ⟨(wrap64 (x9_1 + 1)), (by first | rfl | (simp; done) | (simp [*]; done)), H', ⟨by have := HK1.out; omega⟩, by repeat (first | exact Drawn0.refl _ | apply Drawn0.step)⟩
      ·replace c7 := Bool.eq_false_iff.mpr c7
       subst c7; have H1 : (some false) = some r := by rw [if_neg (show ¬ (false = true) by decide)] at H; exact H
       clear H; have H := H1; clear H1; obtain rfl := Option.some.inj H; have p205 : 0 ≤ (x9_1 : Int) := of_decide_eq_true (by first | (with_reducible assumption) | assumption); have q205 : x9_1 < (l0.length : Int) := of_decide_eq_true (by first | (with_reducible assumption) | assumption); obtain ⟨ad205, e205, hx205_0⟩ := Kd.at_int HR0.out x9_1 p205 q205; cases e205; replace p205 := eq_true p205; replace q205 := eq_true q205
       go_wp2_with (first | ((with_reducible refine gate_callee (f := 54) rfl ?_); refine goesL_ (some 15) rfl rfl Try.func54 (by kernel_rfl) rfl #[.slice A1 l1.length c1, .int .i64 (rd l0 x9_1)] rfl (by (try simp only [List.map_toArray, List.map_cons, List.map_nil]); first | done | rfl | (simp only [List.length_drop, List.length_take]; rfl)) ?_; (with_reducible refine (spec_l1Has.calls k1 _ _ l1 (rd l0 x9_1) false _ ?side1 ?side2 A6.out).mono ?_); (case side1 => repeat (first | exact HR1.out | (with_reducible refine Kd.C_alloc ?_ _) | (with_reducible refine Kd.C_drewN ?_ _) | (with_reducible refine Kd.C_drew ?_))); (case side2 => exact HC1.out); rintro e w' ⟨rfl, ⟨nd, rfl⟩⟩; refine ⟨_, rfl, ?_⟩))
       go_ret
       exact ⟨by first | rfl | (simp; done) | (simp [*]; done), by repeat (first | exact Drawn0.refl _ | apply Drawn0.step)⟩
     ·rw [if_neg c5] at H
      exact absurd H (by simp)
    ·rw [if_neg c4] at H
     exact absurd H (by simp)
   ·rw [if_neg c3] at H
    have c3b0 : decide (x9_1 < (l0.length : Int)) = false := decide_eq_false c3; clear c3; obtain rfl := Option.some.inj H
    go_wp2
    go_ret
    exact ⟨by first | rfl | (simp; done) | (simp [*]; done), by repeat (first | exact Drawn0.refl _ | apply Drawn0.step)⟩
def spec_l15Step.f (l0 : List Int) (l1 : List Int) (l2 : List (S98)) (a3 : Int) : Option (List Int × List Int) := if 0 ≤ a3 then (if a3 < (l2.length : Int) then (if ((rd_T98 l2 a3).f0) = 1 then (if 0 ≤ (wrap64 ((wrap64 (4 * ((rd_T98 l2 a3).f1))) + ((rd_T98 l2 a3).f2))) then (if (wrap64 ((wrap64 (4 * ((rd_T98 l2 a3).f1))) + ((rd_T98 l2 a3).f2))) < (l0.length : Int) then (if a3 < (l1.length : Int) then (some (l0, (l1.set (a3 : Int).toNat (rd l0 (wrap64 ((wrap64 (4 * ((rd_T98 l2 a3).f1))) + ((rd_T98 l2 a3).f2))))))) else (none)) else (none)) else (none)) else (if ((rd_T98 l2 a3).f0) = 2 then (if 0 ≤ ((rd_T98 l2 a3).f3) then (if ((rd_T98 l2 a3).f3) < (l1.length : Int) then (if a3 < (l1.length : Int) then (some (l0, (l1.set (a3 : Int).toNat (Int.tmod (wrap64 ((rd l1 ((rd_T98 l2 a3).f3)) + ((rd_T98 l2 a3).f4))) 1000)))) else (none)) else (none)) else (none)) else (if 0 ≤ ((rd_T98 l2 a3).f3) then (if ((rd_T98 l2 a3).f3) < (l1.length : Int) then (if 0 ≤ (wrap64 ((wrap64 (4 * ((rd_T98 l2 a3).f1))) + ((rd_T98 l2 a3).f2))) then (if (wrap64 ((wrap64 (4 * ((rd_T98 l2 a3).f1))) + ((rd_T98 l2 a3).f2))) < (l0.length : Int) then (if a3 < (l1.length : Int) then (some ((l0.set ((wrap64 ((wrap64 (4 * ((rd_T98 l2 a3).f1))) + ((rd_T98 l2 a3).f2))) : Int).toNat (rd l1 ((rd_T98 l2 a3).f3))), (l1.set (a3 : Int).toNat (rd l1 ((rd_T98 l2 a3).f3))))) else (none)) else (none)) else (none)) else (none)) else (none)))) else (none)) else (none)
def spec_l15Step.T8 : Bool × List (List Nat × List Nat) := (true, [([], []), ([], []), ([], []), ([], []), ([3], [3]), ([2, 4], [2, 4]), ([5], [5]), ([], []), ([7], [7]), ([6, 8], [6, 8]), ([9], [9]), ([0, 1, 0, 1, 2, 3, 4, 5, 6, 7, 8, 9, 10], [0, 1]), ([11, 10, 0, 1, 2, 3, 4, 5, 6, 7, 8, 9, 10], [10, 11])])
def spec_l15Step.B8 : List Nat := [0, 0, 0, 0, 8, 28, 60, 0, 128, 508, 1020, 2047, 4095]
theorem spec_l15Step.tab8 : rtab .any (opsOf Try.f90 8) = spec_l15Step.T8 := by kernel_rfl
theorem spec_l15Step.bits8 : waitsOk spec_l15Step.T8.2 spec_l15Step.B8 = true := by kernel_rfl
theorem spec_l15Step.calls (P0_ : Nat → Prop) (u9000_ : Value) (l0 : List Int) (P1_ : Nat → Prop) (u9001_ : Value) (l1 : List Int) (A2 : Option Addr) (c2 : Nat) (l2 : List (S98)) (a3 : Int) (r1 : List Int) (r2 : List Int) (w0 w : World) (hB : Below w0.heap.size w0 w) (ho0 : Kd.R (Kd.int .i64) 3 w w0.heap.size P0_ u9000_ l0) (hp0_1 : ∀ k_, P0_ k_ → ¬ P1_ k_) (ho1 : Kd.R (Kd.int .i64) 3 w w0.heap.size P1_ u9001_ l1) (hp1_0 : ∀ k_, P1_ k_ → ¬ P0_ k_) (hr2 : ∀ W_, Kept w W_ (fun k_ => P0_ k_ ∨ P1_ k_) → Kd.C k98 W_ A2 l2.length l2) (hc2 : l2.length ≤ c2) (h : spec_l15Step.f l0 l1 l2 a3 = some (r1, r2)) :
  Calls Try.prog 90 #[u9000_, u9001_, .slice A2 l2.length c2, .int .i64 a3] w fun e w' => e = .returned (.tuple #[]) ∧ Kd.R (Kd.int .i64) 3 w' w0.heap.size (fun k_ => ((P0_ k_ ∨ P1_ k_) ∨ w.heap.size ≤ k_)) u9000_ r1 ∧ Kd.R (Kd.int .i64) 3 w' w0.heap.size (fun k_ => ((P0_ k_ ∨ P1_ k_) ∨ w.heap.size ≤ k_)) u9001_ r2 ∧ Below w0.heap.size w0 w' ∧ Kept w w' (fun k_ => P0_ k_ ∨ P1_ k_) := by
 have hu98 := Try.underlying98; have HO0 := Aside0.mk (show Kd.R (Kd.int .i64) 3 w w0.heap.size (fun k_ => ((P0_ k_ ∨ P1_ k_) ∨ w.heap.size ≤ k_) ∧ some k_ ≠ (u9001_ : Value).ownBlock) u9000_ l0 from Kd.R_mono ho0 (fun k_ hk => ⟨(.inl (.inl hk)), fun e_ => hp0_1 k_ hk (ho1.1 k_ e_.symm)⟩)); have HO1 := Aside0.mk (show Kd.R (Kd.int .i64) 3 w w0.heap.size (fun k_ => ((P0_ k_ ∨ P1_ k_) ∨ w.heap.size ≤ k_) ∧ some k_ ≠ (u9000_ : Value).ownBlock) u9001_ l1 from Kd.R_mono ho1 (fun k_ hk => ⟨(.inl (.inr hk)), fun e_ => hp1_0 k_ hk (ho0.1 k_ e_.symm)⟩)); have HR2 := Aside0.mk hr2; have HC2 := Aside0.mk hc2; clear hr2 hc2; have HK := Aside0.mk (Kept.refl w (fun k_ => P0_ k_ ∨ P1_ k_)); have HW0 := Aside0.mk hB.size; have HB := Aside0.mk hB; clear hB; have H : (if 0 ≤ a3 then (if a3 < (l2.length : Int) then (if ((rd_T98 l2 a3).f0) = 1 then (if 0 ≤ (wrap64 ((wrap64 (4 * ((rd_T98 l2 a3).f1))) + ((rd_T98 l2 a3).f2))) then (if (wrap64 ((wrap64 (4 * ((rd_T98 l2 a3).f1))) + ((rd_T98 l2 a3).f2))) < (l0.length : Int) then (if a3 < (l1.length : Int) then (some (l0, (l1.set (a3 : Int).toNat (rd l0 (wrap64 ((wrap64 (4 * ((rd_T98 l2 a3).f1))) + ((rd_T98 l2 a3).f2))))))) else (none)) else (none)) else (none)) else (if ((rd_T98 l2 a3).f0) = 2 then (if 0 ≤ ((rd_T98 l2 a3).f3) then (if ((rd_T98 l2 a3).f3) < (l1.length : Int) then (if a3 < (l1.length : Int) then (some (l0, (l1.set (a3 : Int).toNat (Int.tmod (wrap64 ((rd l1 ((rd_T98 l2 a3).f3)) + ((rd_T98 l2 a3).f4))) 1000)))) else (none)) else (none)) else (none)) else (if 0 ≤ ((rd_T98 l2 a3).f3) then (if ((rd_T98 l2 a3).f3) < (l1.length : Int) then (if 0 ≤ (wrap64 ((wrap64 (4 * ((rd_T98 l2 a3).f1))) + ((rd_T98 l2 a3).f2))) then (if (wrap64 ((wrap64 (4 * ((rd_T98 l2 a3).f1))) + ((rd_T98 l2 a3).f2))) < (l0.length : Int) then (if a3 < (l1.length : Int) then (some ((l0.set ((wrap64 ((wrap64 (4 * ((rd_T98 l2 a3).f1))) + ((rd_T98 l2 a3).f2))) : Int).toNat (rd l1 ((rd_T98 l2 a3).f3))), (l1.set (a3 : Int).toNat (rd l1 ((rd_T98 l2 a3).f3))))) else (none)) else (none)) else (none)) else (none)) else (none)))) else (none)) else (none)) = some (r1, r2) := h; clear h
 by_cases c5 : 0 ≤ a3
 ·rw [if_pos c5] at H
  have c5b0 : decide (0 ≤ a3) = true := decide_eq_true c5; clear c5
  by_cases c6 : a3 < (l2.length : Int)
  ·rw [if_pos c6] at H
   have c6b0 : decide (a3 < (l2.length : Int)) = true := decide_eq_true c6; clear c6
   by_cases c7 : ((rd_T98 l2 a3).f0) = 1
   ·rw [if_pos c7] at H
    have c7b0 : (((rd_T98 l2 a3).f0) == 1) = true := beq_iff_eq.mpr c7; have c7b1 : (((rd_T98 l2 a3).f0) != 1) = false := bne_eq_false_iff_eq.mpr c7; clear c7; obtain ⟨ji8, hji8⟩ : ∃ j_ : Int, (wrap64 ((wrap64 (4 * ((rd_T98 l2 a3).f1))) + ((rd_T98 l2 a3).f2))) = j_ := ⟨_, rfl⟩
    replace H : (if 0 ≤ (ji8) then (if (ji8) < (l0.length : Int) then (if a3 < (l1.length : Int) then (some (l0, (l1.set (a3 : Int).toNat (rd l0 (ji8))))) else (none)) else (none)) else (none)) = some (r1, r2) := by first | (rw [hji8] at H; exact H) | (simp only [hji8] at H ⊢; exact H)
    have hji8w : (IntKind.i64.wrap ((wrap64 (4 * ((rd_T98 l2 a3).f1))) + ((rd_T98 l2 a3).f2))) = ji8 := (i64_w _).trans hji8
    by_cases c9 : 0 ≤ (ji8)
    ·rw [if_pos c9] at H
     have c9b0 : decide (0 ≤ (ji8)) = true := decide_eq_true c9; clear c9
     by_cases c10 : (ji8) < (l0.length : Int)
     ·rw [if_pos c10] at H
      have c10b0 : decide ((ji8) < (l0.length : Int)) = true := decide_eq_true c10; clear c10
      by_cases c11 : a3 < (l1.length : Int)
      ·rw [if_pos c11] at H
       have c11b0 : decide (a3 < (l1.length : Int)) = true := decide_eq_true c11; clear c11; obtain ⟨y210, hy210⟩ : ∃ y_ : List Int, y_ = (l1.set (a3 : Int).toNat (rd l0 (ji8))) := ⟨_, rfl⟩
       replace H : (some (l0, y210)) = some (r1, r2) := by first | (rw [hy210]; with_reducible exact H) | (have H2_ := (Option.bind_some _ _).symm.trans H; rw [hy210]; with_reducible exact H2_) | (have H2_ := (Option.bind_some _ _).symm.trans H; with_reducible exact H2_) | with_reducible exact H | (rw [hy210]; exact H) | exact H
       have Ny210 := Aside0.mk hy210; clear hy210
       simp only [Option.some.injEq, Prod.mk.injEq] at H
       obtain ⟨rfl, rfl⟩ := H; have p207 : 0 ≤ (a3 : Int) := of_decide_eq_true (by first | (with_reducible assumption) | assumption); have q207 : a3 < (l2.length : Int) := of_decide_eq_true (by first | (with_reducible assumption) | assumption); obtain ⟨ad207, e207, hx207_0, hx207_1, hx207_2, hx207_3, hx207_4⟩ := at_T98 (Kd.C_kept_now HR2.out HK.out) a3 p207 q207; cases e207; replace p207 := eq_true p207; replace q207 := eq_true q207
       go_enter Try.func90, Try.ntmps90
       go_wp2_with (first | ((with_reducible refine gate_dst (N := 8) rfl ?_); refine box_event ?hg (N := 8) ?hd (cs := #[.int .i64 0, .int .i64 0, .int .i64 0, .int .i64 0, .int .i64 0]) (t := 98) ?hr ?_; (case hd => rfl); (case hg => rfl); (case hr => first | (go_simp; done) | (go_simp; rfl)); intro gb208 hg w13 hbox hb; have n0_ := Aside0.mk (Kd.R_below (by (with_reducible repeat (first | apply Kd.R_alloc | apply Kd.R_drewN | apply Kd.R_drew)); exact HO0.out) hb); have n1_ := Aside0.mk (Kd.R_below (by (with_reducible repeat (first | apply Kd.R_alloc | apply Kd.R_drewN | apply Kd.R_drew)); exact HO1.out) hb); have n2_ := Aside0.mk (Kept.below (S := (fun k_ => P0_ k_ ∨ P1_ k_)) (by repeat (first | (with_reducible first | exact HK.out | apply Kept.alloc | apply Kept.drewN | apply Kept.drew) | exact HK.out)) hb); have n3_ := Aside0.mk (below_step (by repeat first | exact HB.out | apply below_alloc | apply pw_below_drewN | apply below_drew1) hb); have n4_ := Aside0.mk (hbox); have n5_ := Aside0.mk ((by rw [hg]; exact (by first | exact HK.out.1 | exact (show Kept w _ (fun k_ => P0_ k_ ∨ P1_ k_) from by repeat (first | (with_reducible first | exact HK.out | apply Kept.alloc | apply Kept.drewN | apply Kept.drew) | exact HK.out)).1) : w.heap.size ≤ gb208)); have n6_ := Aside0.mk ((by rw [hg]; exact (below_size (by repeat first | exact HB.out | apply below_alloc | apply pw_below_drewN | apply below_drew1)) : w0.heap.size ≤ gb208)); clear HO0; clear HO1; clear HK; clear HB; have HO0 := n0_; have HO1 := n1_; have HK := n2_; have HB := n3_; have BK208 := n4_; have GW208 := n5_; have GE208 := n6_; clear n0_ n1_ n2_ n3_ n4_ n5_ n6_; clear hb hbox hg; have hcz14_0 : w13.cell? ⟨gb208, 0, none⟩ = some (.int .i64 0) := (blk_cell BK208.out 0).trans rfl; have hcz14_1 : w13.cell? ⟨gb208, 1, none⟩ = some (.int .i64 0) := (blk_cell BK208.out 1).trans rfl; have hcz14_2 : w13.cell? ⟨gb208, 2, none⟩ = some (.int .i64 0) := (blk_cell BK208.out 2).trans rfl; have hcz14_3 : w13.cell? ⟨gb208, 3, none⟩ = some (.int .i64 0) := (blk_cell BK208.out 3).trans rfl; have hcz14_4 : w13.cell? ⟨gb208, 4, none⟩ = some (.int .i64 0) := (blk_cell BK208.out 4).trans rfl; have hfz14_0 := blk_frozen BK208.out 0; have hfz14_1 := blk_frozen BK208.out 1; have hfz14_2 := blk_frozen BK208.out 2; have hfz14_3 := blk_frozen BK208.out 3; have hfz14_4 := blk_frozen BK208.out 4) | ((with_reducible refine gate_store (t := 98) (p := 8) rfl ?_); refine store_event (t := 98) (p := 8) (v := ?vo_w15) (w1 := (((((w13.setCell ⟨gb208, 0, none⟩ (.int .i64 ((rd_T98 l2 a3).f0))).setCell ⟨gb208, 1, none⟩ (.int .i64 ((rd_T98 l2 a3).f1))).setCell ⟨gb208, 2, none⟩ (.int .i64 ((rd_T98 l2 a3).f2))).setCell ⟨gb208, 3, none⟩ (.int .i64 ((rd_T98 l2 a3).f3))).setCell ⟨gb208, 4, none⟩ (.int .i64 ((rd_T98 l2 a3).f4)))) ?hg ?ho ?hn ?hr ?_; (case ho => rfl); (case hg => rfl); (case hn => rfl); (case hr => first | (go_simp; done) | (go_simp; rfl)); intro w15 hw; have n0_ : Aside0 (Kd.R (Kd.int .i64) 3 w15 w0.heap.size (fun k_ => ((P0_ k_ ∨ P1_ k_) ∨ w.heap.size ≤ k_) ∧ some k_ ≠ (u9001_ : Value).ownBlock) u9000_ l0) := ⟨(by rw [hw]; exact (by (with_reducible repeat (first | apply Kd.R_alloc | apply Kd.R_drewN | apply Kd.R_drew)); exact Kd.R_mono (Kd.R_far (p := ⟨gb208, 4, none⟩) (Kd.R_far (p := ⟨gb208, 3, none⟩) (Kd.R_far (p := ⟨gb208, 2, none⟩) (Kd.R_far (p := ⟨gb208, 1, none⟩) (Kd.R_far (p := ⟨gb208, 0, none⟩) (Kd.R_types HO0.out BK208.out (by decide)) (fun _ hk => hk.2) (.int .i64 ((rd_T98 l2 a3).f0))) (fun _ hk => hk.2) (.int .i64 ((rd_T98 l2 a3).f1))) (fun _ hk => hk.2) (.int .i64 ((rd_T98 l2 a3).f2))) (fun _ hk => hk.2) (.int .i64 ((rd_T98 l2 a3).f3))) (fun _ hk => hk.2) (.int .i64 ((rd_T98 l2 a3).f4))) (fun _ hk => ⟨hk.1.1, hk.1.2⟩)))⟩; have n1_ : Aside0 (Kd.R (Kd.int .i64) 3 w15 w0.heap.size (fun k_ => ((P0_ k_ ∨ P1_ k_) ∨ w.heap.size ≤ k_) ∧ some k_ ≠ (u9000_ : Value).ownBlock) u9001_ l1) := ⟨(by rw [hw]; exact (by (with_reducible repeat (first | apply Kd.R_alloc | apply Kd.R_drewN | apply Kd.R_drew)); exact Kd.R_mono (Kd.R_far (p := ⟨gb208, 4, none⟩) (Kd.R_far (p := ⟨gb208, 3, none⟩) (Kd.R_far (p := ⟨gb208, 2, none⟩) (Kd.R_far (p := ⟨gb208, 1, none⟩) (Kd.R_far (p := ⟨gb208, 0, none⟩) (Kd.R_types HO1.out BK208.out (by decide)) (fun _ hk => hk.2) (.int .i64 ((rd_T98 l2 a3).f0))) (fun _ hk => hk.2) (.int .i64 ((rd_T98 l2 a3).f1))) (fun _ hk => hk.2) (.int .i64 ((rd_T98 l2 a3).f2))) (fun _ hk => hk.2) (.int .i64 ((rd_T98 l2 a3).f3))) (fun _ hk => hk.2) (.int .i64 ((rd_T98 l2 a3).f4))) (fun _ hk => ⟨hk.1.1, hk.1.2⟩)))⟩; have n2_ : Aside0 (w15.heap[gb208]? = some (.cells #[.int .i64 ((rd_T98 l2 a3).f0), .int .i64 ((rd_T98 l2 a3).f1), .int .i64 ((rd_T98 l2 a3).f2), .int .i64 ((rd_T98 l2 a3).f3), .int .i64 ((rd_T98 l2 a3).f4)] 98 (0, 0))) := ⟨(by rw [hw]; exact (by (with_reducible repeat (first | refine blk_drewN ?_ _ | refine blk_drew ?_ | refine blk_alloc ?_ _)); refine blk_put (cs := #[.int .i64 ((rd_T98 l2 a3).f0), .int .i64 ((rd_T98 l2 a3).f1), .int .i64 ((rd_T98 l2 a3).f2), .int .i64 ((rd_T98 l2 a3).f3), .int .i64 0]) ?_ 4 _ rfl; (with_reducible repeat (first | refine blk_drewN ?_ _ | refine blk_drew ?_ | refine blk_alloc ?_ _)); refine blk_put (cs := #[.int .i64 ((rd_T98 l2 a3).f0), .int .i64 ((rd_T98 l2 a3).f1), .int .i64 ((rd_T98 l2 a3).f2), .int .i64 0, .int .i64 0]) ?_ 3 _ rfl; (with_reducible repeat (first | refine blk_drewN ?_ _ | refine blk_drew ?_ | refine blk_alloc ?_ _)); refine blk_put (cs := #[.int .i64 ((rd_T98 l2 a3).f0), .int .i64 ((rd_T98 l2 a3).f1), .int .i64 0, .int .i64 0, .int .i64 0]) ?_ 2 _ rfl; (with_reducible repeat (first | refine blk_drewN ?_ _ | refine blk_drew ?_ | refine blk_alloc ?_ _)); refine blk_put (cs := #[.int .i64 ((rd_T98 l2 a3).f0), .int .i64 0, .int .i64 0, .int .i64 0, .int .i64 0]) ?_ 1 _ rfl; (with_reducible repeat (first | refine blk_drewN ?_ _ | refine blk_drew ?_ | refine blk_alloc ?_ _)); refine blk_put (cs := #[.int .i64 0, .int .i64 0, .int .i64 0, .int .i64 0, .int .i64 0]) ?_ 0 _ rfl; (with_reducible repeat (first | refine blk_drewN ?_ _ | refine blk_drew ?_ | refine blk_alloc ?_ _)); exact BK208.out))⟩; have n3_ : Aside0 (Kept w w15 (fun k_ => P0_ k_ ∨ P1_ k_)) := ⟨(by rw [hw]; exact (by repeat (first | (with_reducible first | exact HK.out | apply Kept.alloc | apply Kept.drewN | apply Kept.drew | refine Kept.setCell ?_ (.inr GW208.out) _) | exact HK.out)))⟩; have n4_ : Aside0 (Below w0.heap.size w0 w15) := ⟨(by rw [hw]; exact (by repeat (first | (with_reducible first | exact HB.out | apply below_alloc | apply pw_below_drewN | apply below_drew1 | refine below_set ?_ GE208.out) | exact HB.out)))⟩; clear hw; clear HO0; clear HO1; clear BK208; clear HK; clear HB; have HO0 := n0_; have HO1 := n1_; have BK208 := n2_; have HK := n3_; have HB := n4_; clear n0_ n1_ n2_ n3_ n4_; have hcz16_0 : w15.cell? ⟨gb208, 0, none⟩ = some (.int .i64 ((rd_T98 l2 a3).f0)) := (blk_cell BK208.out 0).trans rfl; have hcz16_1 : w15.cell? ⟨gb208, 1, none⟩ = some (.int .i64 ((rd_T98 l2 a3).f1)) := (blk_cell BK208.out 1).trans rfl; have hcz16_2 : w15.cell? ⟨gb208, 2, none⟩ = some (.int .i64 ((rd_T98 l2 a3).f2)) := (blk_cell BK208.out 2).trans rfl; have hcz16_3 : w15.cell? ⟨gb208, 3, none⟩ = some (.int .i64 ((rd_T98 l2 a3).f3)) := (blk_cell BK208.out 3).trans rfl; have hcz16_4 : w15.cell? ⟨gb208, 4, none⟩ = some (.int .i64 ((rd_T98 l2 a3).f4)) := (blk_cell BK208.out 4).trans rfl; have hfz16_0 := blk_frozen BK208.out 0; have hfz16_1 := blk_frozen BK208.out 1; have hfz16_2 := blk_frozen BK208.out 2; have hfz16_3 := blk_frozen BK208.out 3; have hfz16_4 := blk_frozen BK208.out 4; obtain ⟨Ao17, co17, eo17⟩ := Kd.R_slice HO0.out; subst eo17; have p209 : 0 ≤ ((ji8) : Int) := of_decide_eq_true (by first | (with_reducible assumption) | assumption); have q209 : (ji8) < (l0.length : Int) := of_decide_eq_true (by first | (with_reducible assumption) | assumption); obtain ⟨ad209, e209, hx209_0⟩ := Kd.at_int (Kd.R_reads' HO0.out).2.2 (ji8) p209 q209; cases e209; replace p209 := eq_true p209; replace q209 := eq_true q209; have p12 : 0 ≤ (a3 : Int) := of_decide_eq_true (by first | (with_reducible assumption) | assumption); have q12 : (a3 : Int) < ((l1.length : Int) : Int) := of_decide_eq_true (by first | (with_reducible assumption) | assumption); obtain ⟨go12, co12, eo12, gb12, gl12, cl12, HG12⟩ := Kd.R_form HO1.out (by omega); (first | cases eo12 | (injection eo12 with ea_ en_ ec_; (first | subst ea_ | (injection ea_ with ea_; subst ea_)); subst ec_; clear en_)); have GB12 := Aside0.mk gb12; have GG12 := Aside0.mk HG12; clear gb12 gl12 HG12; have HMgo12 := Aside0.mk (show ((P0_ go12 ∨ P1_ go12) ∨ w.heap.size ≤ go12) from (HO1.out.1 _ rfl).1); obtain ⟨hx12_0, hf12_0⟩ := Kd.R_celln 0 HO1.out (a3 : Int) p12 q12; replace p12 := eq_true p12; replace q12 := eq_true q12; obtain ⟨hy18_, hz18_⟩ := Kd.R_celln 0 HO1.out (a3 : Int) (of_decide_eq_true (by first | (with_reducible assumption) | assumption)) (of_decide_eq_true (by first | (with_reducible assumption) | assumption)); have HP18 := Kd.R_putg HO1.out (a3 : Int) (rd l0 (ji8))) | ((with_reducible refine gate_store (t := 3) (p := 46) rfl ?_); refine store_event (t := 3) (p := 46) (v := ?vo_w19) (w1 := (w15.setCell ⟨go12, (a3 : Int).toNat, none⟩ (.int .i64 (rd l0 (ji8))))) ?hg ?ho ?hn ?hr ?_; (case ho => rfl); (case hg => rfl); (case hn => rfl); (case hr => first | (go_simp; done) | (go_simp; rfl)); intro w19 hw; have hg : w15.grownBy w19 (some go12) := (by rw [hw]; exact HP18.2); have hp_ : Kd.R (Kd.int .i64) 3 w19 w0.heap.size (fun k_ => ((P0_ k_ ∨ P1_ k_) ∨ w.heap.size ≤ k_) ∧ some k_ ≠ (.slice (some ad209) l0.length co17 : Value).ownBlock) (.slice (some ⟨go12, 0, none⟩) l1.length co12) y210 := (by rw [hw, Ny210.out]; exact HP18.1); clear HP18; have n0_ := Aside0.mk (Kd.R_after (v := (.slice (some ⟨go12, 0, none⟩) l1.length co12)) (v1 := (.slice (some ⟨go12, 0, none⟩) l1.length co12)) (ok := (fun k_ => ((P0_ k_ ∨ P1_ k_) ∨ w.heap.size ≤ k_))) (by (with_reducible repeat (first | apply Kd.R_alloc | apply Kd.R_drewN | apply Kd.R_drew)); exact HO0.out) hg (.inl rfl)); have n1_ := Aside0.mk (hp_); have n2_ := Aside0.mk (blk_grown (g := gb208) (o := .cells #[.int .i64 ((rd_T98 l2 a3).f0), .int .i64 ((rd_T98 l2 a3).f1), .int .i64 ((rd_T98 l2 a3).f2), .int .i64 ((rd_T98 l2 a3).f3), .int .i64 ((rd_T98 l2 a3).f4)] 98 (0, 0)) (by (with_reducible repeat (first | refine blk_drewN ?_ _ | refine blk_drew ?_ | refine blk_alloc ?_ _)); exact BK208.out) hg (Kd.R_ne HO1.out BK208.out (by decide))); have n3_ := Aside0.mk ((by rw [hw]; exact below_set (HB.out) GB12.out : Below w0.heap.size w0 w19)); have n4_ := Aside0.mk (Kept.of_grown (S := (fun k_ => P0_ k_ ∨ P1_ k_)) hg (by repeat (first | (with_reducible first | exact HK.out | apply Kept.alloc | apply Kept.drewN | apply Kept.drew | refine Kept.setCell ?_ (.inr GW208.out) _) | exact HK.out)) (fun k_ e_ => (HO1.out.1 k_ e_).1)); clear HO0; clear HO1; clear BK208; clear HB; clear HK; have HO0 := n0_; have HO1 := n1_; have BK208 := n2_; have HB := n3_; have HK := n4_; clear n0_ n1_ n2_ n3_ n4_; clear hg hw hp_))
       first | go_end0 | ((try simp only [Exit.inBlock, Exit.then]); refine bodyPost_ret (results_none rfl _ _ _) rfl ?_)
       exact ⟨by first | rfl | (simp [errW_none, errW_some] <;> rfl) | (simp only [← hji8]; first | rfl | (simp [errW_none, errW_some] <;> rfl)) | (simp [*, errW_none, errW_some] <;> rfl), by (with_reducible repeat (first | apply Kd.R_alloc | apply Kd.R_drewN | apply Kd.R_drew)); exact Kd.R_mono HO0.out (fun _ hk => hk.1), by (with_reducible repeat (first | apply Kd.R_alloc | apply Kd.R_drewN | apply Kd.R_drew)); exact Kd.R_mono HO1.out (fun _ hk => hk.1), by repeat (first | (with_reducible first | exact HB.out | apply below_alloc | apply pw_below_drewN | apply below_drew1 | refine below_set ?_ GE208.out) | exact HB.out), by repeat (first | (with_reducible first | exact HK.out | apply Kept.alloc | apply Kept.drewN | apply Kept.drew | refine Kept.setCell ?_ (.inr GW208.out) _) | exact HK.out)⟩
      ·rw [if_neg c11] at H
       exact absurd H (by simp)
     ·rw [if_neg c10] at H
      exact absurd H (by simp)
    ·rw [if_neg c9] at H
     exact absurd H (by simp)
   ·rw [if_neg c7] at H
    have c7b0 : (((rd_T98 l2 a3).f0) == 1) = false := beq_eq_false_iff_ne.mpr c7; have c7b1 : (((rd_T98 l2 a3).f0) != 1) = true := bne_iff_ne.mpr c7
    by_cases c20 : ((rd_T98 l2 a3).f0) = 2
    ·rw [if_pos c20] at H
     have c20b0 : (((rd_T98 l2 a3).f0) == 2) = true := beq_iff_eq.mpr c20; have c20b1 : (((rd_T98 l2 a3).f0) != 2) = false := bne_eq_false_iff_eq.mpr c20; clear c20
     by_cases c21 : 0 ≤ ((rd_T98 l2 a3).f3)
     ·rw [if_pos c21] at H
      have c21b0 : decide (0 ≤ ((rd_T98 l2 a3).f3)) = true := decide_eq_true c21; clear c21
      by_cases c22 : ((rd_T98 l2 a3).f3) < (l1.length : Int)
      ·rw [if_pos c22] at H
       have c22b0 : decide (((rd_T98 l2 a3).f3) < (l1.length : Int)) = true := decide_eq_true c22; clear c22
       by_cases c23 : a3 < (l1.length : Int)
       ·rw [if_pos c23] at H
        have c23b0 : decide (a3 < (l1.length : Int)) = true := decide_eq_true c23; clear c23; obtain ⟨y212, hy212⟩ : ∃ y_ : List Int, y_ = (l1.set (a3 : Int).toNat (Int.tmod (wrap64 ((rd l1 ((rd_T98 l2 a3).f3)) + ((rd_T98 l2 a3).f4))) 1000)) := ⟨_, rfl⟩
        replace H : (some (l0, y212)) = some (r1, r2) := by first | (rw [hy212]; with_reducible exact H) | (have H2_ := (Option.bind_some _ _).symm.trans H; rw [hy212]; with_reducible exact H2_) | (have H2_ := (Option.bind_some _ _).symm.trans H; with_reducible exact H2_) | with_reducible exact H | (rw [hy212]; exact H) | exact H
        have Ny212 := Aside0.mk hy212; clear hy212
        simp only [Option.some.injEq, Prod.mk.injEq] at H
        obtain ⟨rfl, rfl⟩ := H; have p207 : 0 ≤ (a3 : Int) := of_decide_eq_true (by first | (with_reducible assumption) | assumption); have q207 : a3 < (l2.length : Int) := of_decide_eq_true (by first | (with_reducible assumption) | assumption); obtain ⟨ad207, e207, hx207_0, hx207_1, hx207_2, hx207_3, hx207_4⟩ := at_T98 (Kd.C_kept_now HR2.out HK.out) a3 p207 q207; cases e207; replace p207 := eq_true p207; replace q207 := eq_true q207
        go_enter Try.func90, Try.ntmps90
        try go_wp2_with (first | ((with_reducible refine gate_dst (N := 8) rfl ?_); refine box_event ?hg (N := 8) ?hd (cs := #[.int .i64 0, .int .i64 0, .int .i64 0, .int .i64 0, .int .i64 0]) (t := 98) ?hr ?_; (case hd => rfl); (case hg => rfl); (case hr => first | (go_simp; done) | (go_simp; rfl)); intro gb208 hg w25 hbox hb; have n0_ := Aside0.mk (Kd.R_below (by (with_reducible repeat (first | apply Kd.R_alloc | apply Kd.R_drewN | apply Kd.R_drew)); exact HO0.out) hb); have n1_ := Aside0.mk (Kd.R_below (by (with_reducible repeat (first | apply Kd.R_alloc | apply Kd.R_drewN | apply Kd.R_drew)); exact HO1.out) hb); have n2_ := Aside0.mk (Kept.below (S := (fun k_ => P0_ k_ ∨ P1_ k_)) (by repeat (first | (with_reducible first | exact HK.out | apply Kept.alloc | apply Kept.drewN | apply Kept.drew) | exact HK.out)) hb); have n3_ := Aside0.mk (below_step (by repeat first | exact HB.out | apply below_alloc | apply pw_below_drewN | apply below_drew1) hb); have n4_ := Aside0.mk (hbox); have n5_ := Aside0.mk ((by rw [hg]; exact (by first | exact HK.out.1 | exact (show Kept w _ (fun k_ => P0_ k_ ∨ P1_ k_) from by repeat (first | (with_reducible first | exact HK.out | apply Kept.alloc | apply Kept.drewN | apply Kept.drew) | exact HK.out)).1) : w.heap.size ≤ gb208)); have n6_ := Aside0.mk ((by rw [hg]; exact (below_size (by repeat first | exact HB.out | apply below_alloc | apply pw_below_drewN | apply below_drew1)) : w0.heap.size ≤ gb208)); clear HO0; clear HO1; clear HK; clear HB; have HO0 := n0_; have HO1 := n1_; have HK := n2_; have HB := n3_; have BK208 := n4_; have GW208 := n5_; have GE208 := n6_; clear n0_ n1_ n2_ n3_ n4_ n5_ n6_; clear hb hbox hg; have hcz26_0 : w25.cell? ⟨gb208, 0, none⟩ = some (.int .i64 0) := (blk_cell BK208.out 0).trans rfl; have hcz26_1 : w25.cell? ⟨gb208, 1, none⟩ = some (.int .i64 0) := (blk_cell BK208.out 1).trans rfl; have hcz26_2 : w25.cell? ⟨gb208, 2, none⟩ = some (.int .i64 0) := (blk_cell BK208.out 2).trans rfl; have hcz26_3 : w25.cell? ⟨gb208, 3, none⟩ = some (.int .i64 0) := (blk_cell BK208.out 3).trans rfl; have hcz26_4 : w25.cell? ⟨gb208, 4, none⟩ = some (.int .i64 0) := (blk_cell BK208.out 4).trans rfl; have hfz26_0 := blk_frozen BK208.out 0; have hfz26_1 := blk_frozen BK208.out 1; have hfz26_2 := blk_frozen BK208.out 2; have hfz26_3 := blk_frozen BK208.out 3; have hfz26_4 := blk_frozen BK208.out 4))
        have n0_ : Aside0 (Kd.R (Kd.int .i64) 3 (((((w25.setCell ⟨gb208, 0, none⟩ (.int .i64 ((rd_T98 l2 a3).f0))).setCell ⟨gb208, 1, none⟩ (.int .i64 ((rd_T98 l2 a3).f1))).setCell ⟨gb208, 2, none⟩ (.int .i64 ((rd_T98 l2 a3).f2))).setCell ⟨gb208, 3, none⟩ (.int .i64 ((rd_T98 l2 a3).f3))).setCell ⟨gb208, 4, none⟩ (.int .i64 ((rd_T98 l2 a3).f4))) w0.heap.size (fun k_ => ((P0_ k_ ∨ P1_ k_) ∨ w.heap.size ≤ k_) ∧ some k_ ≠ (u9001_ : Value).ownBlock) u9000_ l0) := ⟨by (with_reducible repeat (first | apply Kd.R_alloc | apply Kd.R_drewN | apply Kd.R_drew)); exact Kd.R_mono (Kd.R_far (p := ⟨gb208, 4, none⟩) (Kd.R_far (p := ⟨gb208, 3, none⟩) (Kd.R_far (p := ⟨gb208, 2, none⟩) (Kd.R_far (p := ⟨gb208, 1, none⟩) (Kd.R_far (p := ⟨gb208, 0, none⟩) (Kd.R_types HO0.out BK208.out (by decide)) (fun _ hk => hk.2) (.int .i64 ((rd_T98 l2 a3).f0))) (fun _ hk => hk.2) (.int .i64 ((rd_T98 l2 a3).f1))) (fun _ hk => hk.2) (.int .i64 ((rd_T98 l2 a3).f2))) (fun _ hk => hk.2) (.int .i64 ((rd_T98 l2 a3).f3))) (fun _ hk => hk.2) (.int .i64 ((rd_T98 l2 a3).f4))) (fun _ hk => ⟨hk.1.1, hk.1.2⟩)⟩
        have n1_ : Aside0 (Kd.R (Kd.int .i64) 3 (((((w25.setCell ⟨gb208, 0, none⟩ (.int .i64 ((rd_T98 l2 a3).f0))).setCell ⟨gb208, 1, none⟩ (.int .i64 ((rd_T98 l2 a3).f1))).setCell ⟨gb208, 2, none⟩ (.int .i64 ((rd_T98 l2 a3).f2))).setCell ⟨gb208, 3, none⟩ (.int .i64 ((rd_T98 l2 a3).f3))).setCell ⟨gb208, 4, none⟩ (.int .i64 ((rd_T98 l2 a3).f4))) w0.heap.size (fun k_ => ((P0_ k_ ∨ P1_ k_) ∨ w.heap.size ≤ k_) ∧ some k_ ≠ (u9000_ : Value).ownBlock) u9001_ l1) := ⟨by (with_reducible repeat (first | apply Kd.R_alloc | apply Kd.R_drewN | apply Kd.R_drew)); exact Kd.R_mono (Kd.R_far (p := ⟨gb208, 4, none⟩) (Kd.R_far (p := ⟨gb208, 3, none⟩) (Kd.R_far (p := ⟨gb208, 2, none⟩) (Kd.R_far (p := ⟨gb208, 1, none⟩) (Kd.R_far (p := ⟨gb208, 0, none⟩) (Kd.R_types HO1.out BK208.out (by decide)) (fun _ hk => hk.2) (.int .i64 ((rd_T98 l2 a3).f0))) (fun _ hk => hk.2) (.int .i64 ((rd_T98 l2 a3).f1))) (fun _ hk => hk.2) (.int .i64 ((rd_T98 l2 a3).f2))) (fun _ hk => hk.2) (.int .i64 ((rd_T98 l2 a3).f3))) (fun _ hk => hk.2) (.int .i64 ((rd_T98 l2 a3).f4))) (fun _ hk => ⟨hk.1.1, hk.1.2⟩)⟩
        have n2_ : Aside0 ((((((w25.setCell ⟨gb208, 0, none⟩ (.int .i64 ((rd_T98 l2 a3).f0))).setCell ⟨gb208, 1, none⟩ (.int .i64 ((rd_T98 l2 a3).f1))).setCell ⟨gb208, 2, none⟩ (.int .i64 ((rd_T98 l2 a3).f2))).setCell ⟨gb208, 3, none⟩ (.int .i64 ((rd_T98 l2 a3).f3))).setCell ⟨gb208, 4, none⟩ (.int .i64 ((rd_T98 l2 a3).f4))).heap[gb208]? = some (.cells #[.int .i64 ((rd_T98 l2 a3).f0), .int .i64 ((rd_T98 l2 a3).f1), .int .i64 ((rd_T98 l2 a3).f2), .int .i64 ((rd_T98 l2 a3).f3), .int .i64 ((rd_T98 l2 a3).f4)] 98 (0, 0))) := ⟨by (with_reducible repeat (first | refine blk_drewN ?_ _ | refine blk_drew ?_ | refine blk_alloc ?_ _)); refine blk_put (cs := #[.int .i64 ((rd_T98 l2 a3).f0), .int .i64 ((rd_T98 l2 a3).f1), .int .i64 ((rd_T98 l2 a3).f2), .int .i64 ((rd_T98 l2 a3).f3), .int .i64 0]) ?_ 4 _ rfl; (with_reducible repeat (first | refine blk_drewN ?_ _ | refine blk_drew ?_ | refine blk_alloc ?_ _)); refine blk_put (cs := #[.int .i64 ((rd_T98 l2 a3).f0), .int .i64 ((rd_T98 l2 a3).f1), .int .i64 ((rd_T98 l2 a3).f2), .int .i64 0, .int .i64 0]) ?_ 3 _ rfl; (with_reducible repeat (first | refine blk_drewN ?_ _ | refine blk_drew ?_ | refine blk_alloc ?_ _)); refine blk_put (cs := #[.int .i64 ((rd_T98 l2 a3).f0), .int .i64 ((rd_T98 l2 a3).f1), .int .i64 0, .int .i64 0, .int .i64 0]) ?_ 2 _ rfl; (with_reducible repeat (first | refine blk_drewN ?_ _ | refine blk_drew ?_ | refine blk_alloc ?_ _)); refine blk_put (cs := #[.int .i64 ((rd_T98 l2 a3).f0), .int .i64 0, .int .i64 0, .int .i64 0, .int .i64 0]) ?_ 1 _ rfl; (with_reducible repeat (first | refine blk_drewN ?_ _ | refine blk_drew ?_ | refine blk_alloc ?_ _)); refine blk_put (cs := #[.int .i64 0, .int .i64 0, .int .i64 0, .int .i64 0, .int .i64 0]) ?_ 0 _ rfl; (with_reducible repeat (first | refine blk_drewN ?_ _ | refine blk_drew ?_ | refine blk_alloc ?_ _)); exact BK208.out⟩
        have n3_ : Aside0 (Kept w (((((w25.setCell ⟨gb208, 0, none⟩ (.int .i64 ((rd_T98 l2 a3).f0))).setCell ⟨gb208, 1, none⟩ (.int .i64 ((rd_T98 l2 a3).f1))).setCell ⟨gb208, 2, none⟩ (.int .i64 ((rd_T98 l2 a3).f2))).setCell ⟨gb208, 3, none⟩ (.int .i64 ((rd_T98 l2 a3).f3))).setCell ⟨gb208, 4, none⟩ (.int .i64 ((rd_T98 l2 a3).f4))) (fun k_ => P0_ k_ ∨ P1_ k_)) := ⟨by repeat (first | (with_reducible first | exact HK.out | apply Kept.alloc | apply Kept.drewN | apply Kept.drew | refine Kept.setCell ?_ (.inr GW208.out) _) | exact HK.out)⟩
        have n4_ : Aside0 (Below w0.heap.size w0 (((((w25.setCell ⟨gb208, 0, none⟩ (.int .i64 ((rd_T98 l2 a3).f0))).setCell ⟨gb208, 1, none⟩ (.int .i64 ((rd_T98 l2 a3).f1))).setCell ⟨gb208, 2, none⟩ (.int .i64 ((rd_T98 l2 a3).f2))).setCell ⟨gb208, 3, none⟩ (.int .i64 ((rd_T98 l2 a3).f3))).setCell ⟨gb208, 4, none⟩ (.int .i64 ((rd_T98 l2 a3).f4)))) := ⟨by repeat (first | (with_reducible first | exact HB.out | apply below_alloc | apply pw_below_drewN | apply below_drew1 | refine below_set ?_ GE208.out) | exact HB.out)⟩
        (try clear HO0)
        (try clear HO1)
        (try clear BK208)
        (try clear HK)
        (try clear HB)
        generalize (((((w25.setCell ⟨gb208, 0, none⟩ (.int .i64 ((rd_T98 l2 a3).f0))).setCell ⟨gb208, 1, none⟩ (.int .i64 ((rd_T98 l2 a3).f1))).setCell ⟨gb208, 2, none⟩ (.int .i64 ((rd_T98 l2 a3).f2))).setCell ⟨gb208, 3, none⟩ (.int .i64 ((rd_T98 l2 a3).f3))).setCell ⟨gb208, 4, none⟩ (.int .i64 ((rd_T98 l2 a3).f4))) = w27 at n0_ n1_ n2_ n3_ n4_ ⊢
        have HO0 := n0_; have HO1 := n1_; have BK208 := n2_; have HK := n3_; have HB := n4_; clear n0_ n1_ n2_ n3_ n4_; have n0_ := Aside0.mk (Kd.R_drew HO0.out); have n1_ := Aside0.mk (Kd.R_drew HO1.out); have n2_ := Aside0.mk (blk_drew BK208.out); have n3_ := Aside0.mk (Kept.drew HK.out); have n4_ := Aside0.mk (below_drew1 HB.out); clear HO0; clear HO1; clear BK208; clear HK; clear HB; have HO0 := n0_; have HO1 := n1_; have BK208 := n2_; have HK := n3_; have HB := n4_; clear n0_ n1_ n2_ n3_ n4_; obtain ⟨Ao29, co29, eo29⟩ := Kd.R_slice HO1.out
        (first | subst eo29 | (injection eo29 with f1_ f2_ f3_; have f4_ := f1_.symm; have f5_ := f3_.symm; clear f1_ f2_ f3_; subst f4_; subst f5_))
        have p211 : 0 ≤ (((rd_T98 l2 a3).f3) : Int) := of_decide_eq_true (by first | (with_reducible assumption) | assumption); have q211 : ((rd_T98 l2 a3).f3) < (l1.length : Int) := of_decide_eq_true (by first | (with_reducible assumption) | assumption); obtain ⟨ad211, e211, hx211_0⟩ := Kd.at_int (Kd.R_reads' HO1.out).2.2 ((rd_T98 l2 a3).f3) p211 q211; cases e211; replace p211 := eq_true p211; replace q211 := eq_true q211; have p24 : 0 ≤ (a3 : Int) := of_decide_eq_true (by first | (with_reducible assumption) | assumption); have q24 : (a3 : Int) < ((l1.length : Int) : Int) := of_decide_eq_true (by first | (with_reducible assumption) | assumption); obtain ⟨go24, co24, eo24, gb24, gl24, cl24, HG24⟩ := Kd.R_form HO1.out (by omega)
        (first | cases eo24 | (injection eo24 with ea_ en_ ec_; (first | subst ea_ | (injection ea_ with ea_; subst ea_)); subst ec_; clear en_))
        have GB24 := Aside0.mk gb24; have GG24 := Aside0.mk HG24; clear gb24 gl24 HG24; have HMgo24 := Aside0.mk (show ((P0_ go24 ∨ P1_ go24) ∨ w.heap.size ≤ go24) from (HO1.out.1 _ rfl).1)
        (first | simp only [add_plain] at hx211_0 | skip)
        obtain ⟨hx24_0, hf24_0⟩ := Kd.R_celln 0 HO1.out (a3 : Int) p24 q24; replace p24 := eq_true p24; replace q24 := eq_true q24; have HP30 := Kd.R_putn HO1.out (a3 : Int) (Int.tmod (wrap64 ((rd l1 ((rd_T98 l2 a3).f3)) + ((rd_T98 l2 a3).f4))) 1000)
        rw [← Ny212.out] at HP30
        have HQ30 := Aside0.mk HP30; clear HP30; refine start_ (n := 13) (S := fun w' => w'.cell? ⟨gb208, 0, none⟩ = some (.int .i64 ((rd_T98 l2 a3).f0)) ∧ w'.cell? ⟨gb208, 1, none⟩ = some (.int .i64 ((rd_T98 l2 a3).f1)) ∧ w'.cell? ⟨gb208, 2, none⟩ = some (.int .i64 ((rd_T98 l2 a3).f2)) ∧ w'.cell? ⟨gb208, 3, none⟩ = some (.int .i64 ((rd_T98 l2 a3).f3)) ∧ w'.cell? ⟨gb208, 4, none⟩ = some (.int .i64 ((rd_T98 l2 a3).f4)) ∧ w'.cell? ((⟨go24, (((rd_T98 l2 a3).f3)).toNat, none⟩ : Addr)) = some (.int .i64 (rd l1 ((rd_T98 l2 a3).f3)))) (ds := [12]) #[false, false, false, false, false, false, false, false, false, false, false, false, false] (by kernel_rfl) rfl rfl ⟨(blk_cell BK208.out 0).trans rfl, (blk_cell BK208.out 1).trans rfl, (blk_cell BK208.out 2).trans rfl, (blk_cell BK208.out 3).trans rfl, (blk_cell BK208.out 4).trans rfl, hx211_0⟩ (fun hHeld => ?_); refine with_tabW spec_l15Step.tab8 spec_l15Step.bits8 (fun HT_ HW_ => ?_)
        generalize w27.drew = w28 at HO0 HO1 BK208 HK HB GG24 HQ30 hf24_0 hx211_0 hx24_0 hHeld ⊢
        refine pure_ (i := 0) (N := some 49) (v := ?_) (a' := ?_) #[true, false, false, false, false, false, false, false, false, false, false, false, false] rfl rfl (any_of HT_.out (by kernel_rfl)) (fun _ _ _ h => h) (Or.inl ⟨by rfl, ?_⟩) ?_ ?_; rotate_left
        ·intro w'
         go_simp
         with_reducible rfl
        rotate_left
        ·simp only [Act.put, List.setIfInBounds_toArray, List.set_cons_zero, List.set_cons_succ, i64_w, i32_w]
         rfl
        refine pure_ (i := 1) (N := some 50) (v := ?_) (a' := ?_) #[true, true, false, false, false, false, false, false, false, false, false, false, false] rfl rfl (any_of HT_.out (by kernel_rfl)) (fun _ _ _ h => h) (Or.inl ⟨by rfl, ?_⟩) ?_ ?_; rotate_left
        ·intro w'
         go_simp
         with_reducible rfl
        rotate_left
        ·simp only [Act.put, List.setIfInBounds_toArray, List.set_cons_zero, List.set_cons_succ, i64_w, i32_w]
         rfl
        refine pure_ (i := 2) (N := some 51) (v := ?_) (a' := ?_) #[true, true, true, false, false, false, false, false, false, false, false, false, false] rfl rfl (any_of HT_.out (by kernel_rfl)) (fun _ _ _ h => h) (Or.inl ⟨by rfl, ?_⟩) ?_ ?_; rotate_left
        ·intro w'
         go_simp
         with_reducible rfl
        rotate_left
        ·simp only [Act.put, List.setIfInBounds_toArray, List.set_cons_zero, List.set_cons_succ, i64_w, i32_w]
         rfl
        refine pure_ (i := 3) (N := some 52) (v := ?_) (a' := ?_) #[true, true, true, true, false, false, false, false, false, false, false, false, false] rfl rfl (any_of HT_.out (by kernel_rfl)) (fun _ _ _ h => h) (Or.inl ⟨by rfl, ?_⟩) ?_ ?_; rotate_left
        ·intro w'
         go_simp
         with_reducible rfl
        rotate_left
        ·simp only [Act.put, List.setIfInBounds_toArray, List.set_cons_zero, List.set_cons_succ, i64_w, i32_w]
         rfl
        refine pure_ (i := 7) (N := some 56) (v := ?_) (a' := ?_) #[true, true, true, true, false, false, false, true, false, false, false, false, false] rfl rfl (any_of HT_.out (by kernel_rfl)) (fun _ _ _ h => h) (Or.inl ⟨by rfl, ?_⟩) ?_ ?_; rotate_left
        ·intro w'
         go_simp
         with_reducible rfl
        rotate_left
        ·simp only [Act.put, List.setIfInBounds_toArray, List.set_cons_zero, List.set_cons_succ, i64_w, i32_w]
         rfl
        refine take_ (i := 4) (N := some 53) (v := ?_) (a' := ?_) #[true, true, true, true, true, false, false, true, false, false, false, false, false] rfl rfl (take_ofW HT_.out HW_.out (by kernel_rfl)) (fun _ _ _ h => h) (Or.inl ⟨by rfl, ?_⟩) hHeld ?_ ?_; rotate_left
        ·rintro w' ⟨s0, s1, s2, s3, s4, s5⟩
         go_simp
         with_reducible rfl
        rotate_left
        ·simp only [Act.put, List.setIfInBounds_toArray, List.set_cons_zero, List.set_cons_succ, i64_w, i32_w]
         rfl
        refine pure_ (i := 5) (N := some 54) (v := ?_) (a' := ?_) #[true, true, true, true, true, true, false, true, false, false, false, false, false] rfl rfl (any_of HT_.out (by kernel_rfl)) (fun _ _ _ h => h) (Or.inl ⟨by rfl, ?_⟩) ?_ ?_; rotate_left
        ·intro w'
         go_simp
         with_reducible rfl
        rotate_left
        ·simp only [Act.put, List.setIfInBounds_toArray, List.set_cons_zero, List.set_cons_succ, i64_w, i32_w]
         rfl
        refine take_ (i := 6) (N := some 55) (v := ?_) (a' := ?_) #[true, true, true, true, true, true, true, true, false, false, false, false, false] rfl rfl (take_ofW HT_.out HW_.out (by kernel_rfl)) (fun _ _ _ h => h) (Or.inl ⟨by rfl, ?_⟩) hHeld ?_ ?_; rotate_left
        ·rintro w' ⟨s0, s1, s2, s3, s4, s5⟩
         go_simp
         with_reducible rfl
        rotate_left
        ·simp only [Act.put, List.setIfInBounds_toArray, List.set_cons_zero, List.set_cons_succ, i64_w, i32_w]
         rfl
        refine take_ (i := 8) (N := some 57) (v := ?_) (a' := ?_) #[true, true, true, true, true, true, true, true, true, false, false, false, false] rfl rfl (take_ofW HT_.out HW_.out (by kernel_rfl)) (fun _ _ _ h => h) (Or.inl ⟨by rfl, ?_⟩) hHeld ?_ ?_; rotate_left
        ·rintro w' ⟨s0, s1, s2, s3, s4, s5⟩
         go_simp
         with_reducible rfl
        rotate_left
        ·simp only [Act.put, List.setIfInBounds_toArray, List.set_cons_zero, List.set_cons_succ, i64_w, i32_w]
         rfl
        refine pure_ (i := 9) (N := some 58) (v := ?_) (a' := ?_) #[true, true, true, true, true, true, true, true, true, true, false, false, false] rfl rfl (any_of HT_.out (by kernel_rfl)) (fun _ _ _ h => h) (Or.inl ⟨by rfl, ?_⟩) ?_ ?_; rotate_left
        ·intro w'
         go_simp
         with_reducible rfl
        rotate_left
        ·simp only [Act.put, List.setIfInBounds_toArray, List.set_cons_zero, List.set_cons_succ, i64_w, i32_w]
         rfl
        refine pure_ (i := 10) (N := some 59) (v := ?_) (a' := ?_) #[true, true, true, true, true, true, true, true, true, true, true, false, false] rfl rfl (any_of HT_.out (by kernel_rfl)) (fun _ _ _ h => h) (Or.inl ⟨by rfl, ?_⟩) ?_ ?_; rotate_left
        ·intro w'
         go_simp
         with_reducible rfl
        rotate_left
        ·simp only [Act.put, List.setIfInBounds_toArray, List.set_cons_zero, List.set_cons_succ, i64_w, i32_w]
         rfl
        refine pure_ (i := 11) (N := some 60) (v := ?_) (a' := ?_) #[true, true, true, true, true, true, true, true, true, true, true, true, false] rfl rfl (any_of HT_.out (by kernel_rfl)) (fun _ _ _ h => h) (Or.inl ⟨by rfl, ?_⟩) ?_ ?_; rotate_left
        ·intro w'
         go_simp
         with_reducible rfl
        rotate_left
        ·simp only [Act.put, List.setIfInBounds_toArray, List.set_cons_zero, List.set_cons_succ, i64_w, i32_w]
         rfl
        refine last_ (i := 12) (N := none) #[true, true, true, true, true, true, true, true, true, true, true, true, true] rfl rfl (one_of HT_.out (by kernel_rfl)) (by decide) (fun K hK => ?_); refine skip_ (w1 := ?_) (by rfl) rfl ?_ ?_; rotate_left
        ·go_simp
         rfl
        refine hK.out _ _ ?_; clear hK K; refine done_ (done_of HT_.out (by kernel_rfl)) ?_
        try go_wp2
        first | go_end0 | ((try simp only [Exit.inBlock, Exit.then]); refine bodyPost_ret (results_none rfl _ _ _) rfl ?_)
        exact ⟨by first | rfl | (simp [errW_none, errW_some] <;> rfl) | (simp [*, errW_none, errW_some] <;> rfl), by (with_reducible repeat (first | apply Kd.R_alloc | apply Kd.R_drewN | apply Kd.R_drew)); exact Kd.R_mono (Kd.R_far (p := ⟨go24, (a3 : Int).toNat, none⟩) (Kd.R_mono HO0.out (fun k_ hk => (⟨hk, fun e_ => hk.2 (by rw [e_]; rfl)⟩ : _ ∧ k_ ≠ go24))) (fun _ hk => hk.2) (.int .i64 (Int.tmod (wrap64 ((rd l1 ((rd_T98 l2 a3).f3)) + ((rd_T98 l2 a3).f4))) 1000))) (fun _ hk => hk.1.1), by (with_reducible repeat (first | apply Kd.R_alloc | apply Kd.R_drewN | apply Kd.R_drew)); exact Kd.R_mono HQ30.out (fun _ hk => hk.1), by repeat (first | (with_reducible first | exact HB.out | apply below_alloc | apply pw_below_drewN | apply below_drew1 | refine below_set ?_ GB24.out | refine below_set ?_ GE208.out) | exact HB.out), by repeat (first | (with_reducible first | exact HK.out | apply Kept.alloc | apply Kept.drewN | apply Kept.drew | refine Kept.setCell ?_ HMgo24.out _ | refine Kept.setCell ?_ (.inr GW208.out) _) | exact HK.out)⟩
       ·rw [if_neg c23] at H
        exact absurd H (by simp)
      ·rw [if_neg c22] at H
       exact absurd H (by simp)
     ·rw [if_neg c21] at H
      exact absurd H (by simp)
    ·rw [if_neg c20] at H
     have c20b0 : (((rd_T98 l2 a3).f0) == 2) = false := beq_eq_false_iff_ne.mpr c20; have c20b1 : (((rd_T98 l2 a3).f0) != 2) = true := bne_iff_ne.mpr c20
     by_cases c31 : 0 ≤ ((rd_T98 l2 a3).f3)
     ·rw [if_pos c31] at H
      have c31b0 : decide (0 ≤ ((rd_T98 l2 a3).f3)) = true := decide_eq_true c31; clear c31
      by_cases c32 : ((rd_T98 l2 a3).f3) < (l1.length : Int)
      ·rw [if_pos c32] at H
       have c32b0 : decide (((rd_T98 l2 a3).f3) < (l1.length : Int)) = true := decide_eq_true c32; clear c32; obtain ⟨ji33, hji33⟩ : ∃ j_ : Int, (wrap64 ((wrap64 (4 * ((rd_T98 l2 a3).f1))) + ((rd_T98 l2 a3).f2))) = j_ := ⟨_, rfl⟩
       replace H : (if 0 ≤ (ji33) then (if (ji33) < (l0.length : Int) then (if a3 < (l1.length : Int) then (some ((l0.set ((ji33) : Int).toNat (rd l1 ((rd_T98 l2 a3).f3))), (l1.set (a3 : Int).toNat (rd l1 ((rd_T98 l2 a3).f3))))) else (none)) else (none)) else (none)) = some (r1, r2) := by first | (rw [hji33] at H; exact H) | (simp only [hji33] at H ⊢; exact H)
       have hji33w : (IntKind.i64.wrap ((wrap64 (4 * ((rd_T98 l2 a3).f1))) + ((rd_T98 l2 a3).f2))) = ji33 := (i64_w _).trans hji33
       by_cases c34 : 0 ≤ (ji33)
       ·rw [if_pos c34] at H
        have c34b0 : decide (0 ≤ (ji33)) = true := decide_eq_true c34; clear c34
        by_cases c35 : (ji33) < (l0.length : Int)
        ·rw [if_pos c35] at H
         have c35b0 : decide ((ji33) < (l0.length : Int)) = true := decide_eq_true c35; clear c35; obtain ⟨y214, hy214⟩ : ∃ y_ : List Int, y_ = (l0.set ((ji33) : Int).toNat (rd l1 ((rd_T98 l2 a3).f3))) := ⟨_, rfl⟩
         replace H : (if a3 < (l1.length : Int) then (some (y214, (l1.set (a3 : Int).toNat (rd l1 ((rd_T98 l2 a3).f3))))) else (none)) = some (r1, r2) := by first | (rw [hy214]; with_reducible exact H) | (have H2_ := (Option.bind_some _ _).symm.trans H; rw [hy214]; with_reducible exact H2_) | (have H2_ := (Option.bind_some _ _).symm.trans H; with_reducible exact H2_) | with_reducible exact H | (rw [hy214]; exact H) | exact H
         have Ny214 := Aside0.mk hy214; clear hy214
         by_cases c37 : a3 < (l1.length : Int)
         ·rw [if_pos c37] at H
          have c37b0 : decide (a3 < (l1.length : Int)) = true := decide_eq_true c37; clear c37; obtain ⟨y216, hy216⟩ : ∃ y_ : List Int, y_ = (l1.set (a3 : Int).toNat (rd l1 ((rd_T98 l2 a3).f3))) := ⟨_, rfl⟩
          replace H : (some (y214, y216)) = some (r1, r2) := by first | (rw [hy216]; with_reducible exact H) | (have H2_ := (Option.bind_some _ _).symm.trans H; rw [hy216]; with_reducible exact H2_) | (have H2_ := (Option.bind_some _ _).symm.trans H; with_reducible exact H2_) | with_reducible exact H | (rw [hy216]; exact H) | exact H
          have Ny216 := Aside0.mk hy216; clear hy216
          simp only [Option.some.injEq, Prod.mk.injEq] at H
          obtain ⟨rfl, rfl⟩ := H; have p207 : 0 ≤ (a3 : Int) := of_decide_eq_true (by first | (with_reducible assumption) | assumption); have q207 : a3 < (l2.length : Int) := of_decide_eq_true (by first | (with_reducible assumption) | assumption); obtain ⟨ad207, e207, hx207_0, hx207_1, hx207_2, hx207_3, hx207_4⟩ := at_T98 (Kd.C_kept_now HR2.out HK.out) a3 p207 q207; cases e207; replace p207 := eq_true p207; replace q207 := eq_true q207
          go_enter Try.func90, Try.ntmps90
          go_wp2_with (first | ((with_reducible refine gate_dst (N := 8) rfl ?_); refine box_event ?hg (N := 8) ?hd (cs := #[.int .i64 0, .int .i64 0, .int .i64 0, .int .i64 0, .int .i64 0]) (t := 98) ?hr ?_; (case hd => rfl); (case hg => rfl); (case hr => first | (go_simp; done) | (go_simp; rfl)); intro gb208 hg w39 hbox hb; have n0_ := Aside0.mk (Kd.R_below (by (with_reducible repeat (first | apply Kd.R_alloc | apply Kd.R_drewN | apply Kd.R_drew)); exact HO0.out) hb); have n1_ := Aside0.mk (Kd.R_below (by (with_reducible repeat (first | apply Kd.R_alloc | apply Kd.R_drewN | apply Kd.R_drew)); exact HO1.out) hb); have n2_ := Aside0.mk (Kept.below (S := (fun k_ => P0_ k_ ∨ P1_ k_)) (by repeat (first | (with_reducible first | exact HK.out | apply Kept.alloc | apply Kept.drewN | apply Kept.drew) | exact HK.out)) hb); have n3_ := Aside0.mk (below_step (by repeat first | exact HB.out | apply below_alloc | apply pw_below_drewN | apply below_drew1) hb); have n4_ := Aside0.mk (hbox); have n5_ := Aside0.mk ((by rw [hg]; exact (by first | exact HK.out.1 | exact (show Kept w _ (fun k_ => P0_ k_ ∨ P1_ k_) from by repeat (first | (with_reducible first | exact HK.out | apply Kept.alloc | apply Kept.drewN | apply Kept.drew) | exact HK.out)).1) : w.heap.size ≤ gb208)); have n6_ := Aside0.mk ((by rw [hg]; exact (below_size (by repeat first | exact HB.out | apply below_alloc | apply pw_below_drewN | apply below_drew1)) : w0.heap.size ≤ gb208)); clear HO0; clear HO1; clear HK; clear HB; have HO0 := n0_; have HO1 := n1_; have HK := n2_; have HB := n3_; have BK208 := n4_; have GW208 := n5_; have GE208 := n6_; clear n0_ n1_ n2_ n3_ n4_ n5_ n6_; clear hb hbox hg; have hcz40_0 : w39.cell? ⟨gb208, 0, none⟩ = some (.int .i64 0) := (blk_cell BK208.out 0).trans rfl; have hcz40_1 : w39.cell? ⟨gb208, 1, none⟩ = some (.int .i64 0) := (blk_cell BK208.out 1).trans rfl; have hcz40_2 : w39.cell? ⟨gb208, 2, none⟩ = some (.int .i64 0) := (blk_cell BK208.out 2).trans rfl; have hcz40_3 : w39.cell? ⟨gb208, 3, none⟩ = some (.int .i64 0) := (blk_cell BK208.out 3).trans rfl; have hcz40_4 : w39.cell? ⟨gb208, 4, none⟩ = some (.int .i64 0) := (blk_cell BK208.out 4).trans rfl; have hfz40_0 := blk_frozen BK208.out 0; have hfz40_1 := blk_frozen BK208.out 1; have hfz40_2 := blk_frozen BK208.out 2; have hfz40_3 := blk_frozen BK208.out 3; have hfz40_4 := blk_frozen BK208.out 4) | ((with_reducible refine gate_store (t := 98) (p := 8) rfl ?_); refine store_event (t := 98) (p := 8) (v := ?vo_w41) (w1 := (((((w39.setCell ⟨gb208, 0, none⟩ (.int .i64 ((rd_T98 l2 a3).f0))).setCell ⟨gb208, 1, none⟩ (.int .i64 ((rd_T98 l2 a3).f1))).setCell ⟨gb208, 2, none⟩ (.int .i64 ((rd_T98 l2 a3).f2))).setCell ⟨gb208, 3, none⟩ (.int .i64 ((rd_T98 l2 a3).f3))).setCell ⟨gb208, 4, none⟩ (.int .i64 ((rd_T98 l2 a3).f4)))) ?hg ?ho ?hn ?hr ?_; (case ho => rfl); (case hg => rfl); (case hn => rfl); (case hr => first | (go_simp; done) | (go_simp; rfl)); intro w41 hw; have n0_ : Aside0 (Kd.R (Kd.int .i64) 3 w41 w0.heap.size (fun k_ => ((P0_ k_ ∨ P1_ k_) ∨ w.heap.size ≤ k_) ∧ some k_ ≠ (u9001_ : Value).ownBlock) u9000_ l0) := ⟨(by rw [hw]; exact (by (with_reducible repeat (first | apply Kd.R_alloc | apply Kd.R_drewN | apply Kd.R_drew)); exact Kd.R_mono (Kd.R_far (p := ⟨gb208, 4, none⟩) (Kd.R_far (p := ⟨gb208, 3, none⟩) (Kd.R_far (p := ⟨gb208, 2, none⟩) (Kd.R_far (p := ⟨gb208, 1, none⟩) (Kd.R_far (p := ⟨gb208, 0, none⟩) (Kd.R_types HO0.out BK208.out (by decide)) (fun _ hk => hk.2) (.int .i64 ((rd_T98 l2 a3).f0))) (fun _ hk => hk.2) (.int .i64 ((rd_T98 l2 a3).f1))) (fun _ hk => hk.2) (.int .i64 ((rd_T98 l2 a3).f2))) (fun _ hk => hk.2) (.int .i64 ((rd_T98 l2 a3).f3))) (fun _ hk => hk.2) (.int .i64 ((rd_T98 l2 a3).f4))) (fun _ hk => ⟨hk.1.1, hk.1.2⟩)))⟩; have n1_ : Aside0 (Kd.R (Kd.int .i64) 3 w41 w0.heap.size (fun k_ => ((P0_ k_ ∨ P1_ k_) ∨ w.heap.size ≤ k_) ∧ some k_ ≠ (u9000_ : Value).ownBlock) u9001_ l1) := ⟨(by rw [hw]; exact (by (with_reducible repeat (first | apply Kd.R_alloc | apply Kd.R_drewN | apply Kd.R_drew)); exact Kd.R_mono (Kd.R_far (p := ⟨gb208, 4, none⟩) (Kd.R_far (p := ⟨gb208, 3, none⟩) (Kd.R_far (p := ⟨gb208, 2, none⟩) (Kd.R_far (p := ⟨gb208, 1, none⟩) (Kd.R_far (p := ⟨gb208, 0, none⟩) (Kd.R_types HO1.out BK208.out (by decide)) (fun _ hk => hk.2) (.int .i64 ((rd_T98 l2 a3).f0))) (fun _ hk => hk.2) (.int .i64 ((rd_T98 l2 a3).f1))) (fun _ hk => hk.2) (.int .i64 ((rd_T98 l2 a3).f2))) (fun _ hk => hk.2) (.int .i64 ((rd_T98 l2 a3).f3))) (fun _ hk => hk.2) (.int .i64 ((rd_T98 l2 a3).f4))) (fun _ hk => ⟨hk.1.1, hk.1.2⟩)))⟩; have n2_ : Aside0 (w41.heap[gb208]? = some (.cells #[.int .i64 ((rd_T98 l2 a3).f0), .int .i64 ((rd_T98 l2 a3).f1), .int .i64 ((rd_T98 l2 a3).f2), .int .i64 ((rd_T98 l2 a3).f3), .int .i64 ((rd_T98 l2 a3).f4)] 98 (0, 0))) := ⟨(by rw [hw]; exact (by (with_reducible repeat (first | refine blk_drewN ?_ _ | refine blk_drew ?_ | refine blk_alloc ?_ _)); refine blk_put (cs := #[.int .i64 ((rd_T98 l2 a3).f0), .int .i64 ((rd_T98 l2 a3).f1), .int .i64 ((rd_T98 l2 a3).f2), .int .i64 ((rd_T98 l2 a3).f3), .int .i64 0]) ?_ 4 _ rfl; (with_reducible repeat (first | refine blk_drewN ?_ _ | refine blk_drew ?_ | refine blk_alloc ?_ _)); refine blk_put (cs := #[.int .i64 ((rd_T98 l2 a3).f0), .int .i64 ((rd_T98 l2 a3).f1), .int .i64 ((rd_T98 l2 a3).f2), .int .i64 0, .int .i64 0]) ?_ 3 _ rfl; (with_reducible repeat (first | refine blk_drewN ?_ _ | refine blk_drew ?_ | refine blk_alloc ?_ _)); refine blk_put (cs := #[.int .i64 ((rd_T98 l2 a3).f0), .int .i64 ((rd_T98 l2 a3).f1), .int .i64 0, .int .i64 0, .int .i64 0]) ?_ 2 _ rfl; (with_reducible repeat (first | refine blk_drewN ?_ _ | refine blk_drew ?_ | refine blk_alloc ?_ _)); refine blk_put (cs := #[.int .i64 ((rd_T98 l2 a3).f0), .int .i64 0, .int .i64 0, .int .i64 0, .int .i64 0]) ?_ 1 _ rfl; (with_reducible repeat (first | refine blk_drewN ?_ _ | refine blk_drew ?_ | refine blk_alloc ?_ _)); refine blk_put (cs := #[.int .i64 0, .int .i64 0, .int .i64 0, .int .i64 0, .int .i64 0]) ?_ 0 _ rfl; (with_reducible repeat (first | refine blk_drewN ?_ _ | refine blk_drew ?_ | refine blk_alloc ?_ _)); exact BK208.out))⟩; have n3_ : Aside0 (Kept w w41 (fun k_ => P0_ k_ ∨ P1_ k_)) := ⟨(by rw [hw]; exact (by repeat (first | (with_reducible first | exact HK.out | apply Kept.alloc | apply Kept.drewN | apply Kept.drew | refine Kept.setCell ?_ (.inr GW208.out) _) | exact HK.out)))⟩; have n4_ : Aside0 (Below w0.heap.size w0 w41) := ⟨(by rw [hw]; exact (by repeat (first | (with_reducible first | exact HB.out | apply below_alloc | apply pw_below_drewN | apply below_drew1 | refine below_set ?_ GE208.out) | exact HB.out)))⟩; clear hw; clear HO0; clear HO1; clear BK208; clear HK; clear HB; have HO0 := n0_; have HO1 := n1_; have BK208 := n2_; have HK := n3_; have HB := n4_; clear n0_ n1_ n2_ n3_ n4_; have hcz42_0 : w41.cell? ⟨gb208, 0, none⟩ = some (.int .i64 ((rd_T98 l2 a3).f0)) := (blk_cell BK208.out 0).trans rfl; have hcz42_1 : w41.cell? ⟨gb208, 1, none⟩ = some (.int .i64 ((rd_T98 l2 a3).f1)) := (blk_cell BK208.out 1).trans rfl; have hcz42_2 : w41.cell? ⟨gb208, 2, none⟩ = some (.int .i64 ((rd_T98 l2 a3).f2)) := (blk_cell BK208.out 2).trans rfl; have hcz42_3 : w41.cell? ⟨gb208, 3, none⟩ = some (.int .i64 ((rd_T98 l2 a3).f3)) := (blk_cell BK208.out 3).trans rfl; have hcz42_4 : w41.cell? ⟨gb208, 4, none⟩ = some (.int .i64 ((rd_T98 l2 a3).f4)) := (blk_cell BK208.out 4).trans rfl; have hfz42_0 := blk_frozen BK208.out 0; have hfz42_1 := blk_frozen BK208.out 1; have hfz42_2 := blk_frozen BK208.out 2; have hfz42_3 := blk_frozen BK208.out 3; have hfz42_4 := blk_frozen BK208.out 4; obtain ⟨Ao43, co43, eo43⟩ := Kd.R_slice HO1.out; subst eo43; have p213 : 0 ≤ (((rd_T98 l2 a3).f3) : Int) := of_decide_eq_true (by first | (with_reducible assumption) | assumption); have q213 : ((rd_T98 l2 a3).f3) < (l1.length : Int) := of_decide_eq_true (by first | (with_reducible assumption) | assumption); obtain ⟨ad213, e213, hx213_0⟩ := Kd.at_int (Kd.R_reads' HO1.out).2.2 ((rd_T98 l2 a3).f3) p213 q213; cases e213; replace p213 := eq_true p213; replace q213 := eq_true q213; have p36 : 0 ≤ ((ji33) : Int) := of_decide_eq_true (by first | (with_reducible assumption) | assumption); have q36 : ((ji33) : Int) < ((l0.length : Int) : Int) := of_decide_eq_true (by first | (with_reducible assumption) | assumption); obtain ⟨go36, co36, eo36, gb36, gl36, cl36, HG36⟩ := Kd.R_form HO0.out (by omega); (first | cases eo36 | (injection eo36 with ea_ en_ ec_; (first | subst ea_ | (injection ea_ with ea_; subst ea_)); subst ec_; clear en_)); have GB36 := Aside0.mk gb36; have GG36 := Aside0.mk HG36; clear gb36 gl36 HG36; have HMgo36 := Aside0.mk (show ((P0_ go36 ∨ P1_ go36) ∨ w.heap.size ≤ go36) from (HO0.out.1 _ rfl).1); obtain ⟨hx36_0, hf36_0⟩ := Kd.R_celln 0 HO0.out ((ji33) : Int) p36 q36; replace p36 := eq_true p36; replace q36 := eq_true q36; obtain ⟨hy44_, hz44_⟩ := Kd.R_celln 0 HO0.out ((ji33) : Int) (of_decide_eq_true (by first | (with_reducible assumption) | assumption)) (of_decide_eq_true (by first | (with_reducible assumption) | assumption)); have HP44 := Kd.R_putg HO0.out ((ji33) : Int) (rd l1 ((rd_T98 l2 a3).f3))) | ((with_reducible refine gate_store (t := 3) (p := 29) rfl ?_); refine store_event (t := 3) (p := 29) (v := ?vo_w45) (w1 := (w41.setCell ⟨go36, ((ji33) : Int).toNat, none⟩ (.int .i64 (rd l1 ((rd_T98 l2 a3).f3))))) ?hg ?ho ?hn ?hr ?_; (case ho => rfl); (case hg => rfl); (case hn => rfl); (case hr => first | (go_simp; done) | (go_simp; rfl)); intro w45 hw; have hg : w41.grownBy w45 (some go36) := (by rw [hw]; exact HP44.2); have hp_ : Kd.R (Kd.int .i64) 3 w45 w0.heap.size (fun k_ => ((P0_ k_ ∨ P1_ k_) ∨ w.heap.size ≤ k_) ∧ some k_ ≠ (.slice (some ad213) l1.length co43 : Value).ownBlock) (.slice (some ⟨go36, 0, none⟩) l0.length co36) y214 := (by rw [hw, Ny214.out]; exact HP44.1); clear HP44; have n0_ := Aside0.mk (hp_); have n1_ := Aside0.mk (Kd.R_after (v := (.slice (some ⟨go36, 0, none⟩) l0.length co36)) (v1 := (.slice (some ⟨go36, 0, none⟩) l0.length co36)) (ok := (fun k_ => ((P0_ k_ ∨ P1_ k_) ∨ w.heap.size ≤ k_))) (by (with_reducible repeat (first | apply Kd.R_alloc | apply Kd.R_drewN | apply Kd.R_drew)); exact HO1.out) hg (.inl rfl)); have n2_ := Aside0.mk (blk_grown (g := gb208) (o := .cells #[.int .i64 ((rd_T98 l2 a3).f0), .int .i64 ((rd_T98 l2 a3).f1), .int .i64 ((rd_T98 l2 a3).f2), .int .i64 ((rd_T98 l2 a3).f3), .int .i64 ((rd_T98 l2 a3).f4)] 98 (0, 0)) (by (with_reducible repeat (first | refine blk_drewN ?_ _ | refine blk_drew ?_ | refine blk_alloc ?_ _)); exact BK208.out) hg (Kd.R_ne HO0.out BK208.out (by decide))); have n3_ := Aside0.mk ((by rw [hw]; exact below_set (HB.out) GB36.out : Below w0.heap.size w0 w45)); have n4_ := Aside0.mk (Kept.of_grown (S := (fun k_ => P0_ k_ ∨ P1_ k_)) hg (by repeat (first | (with_reducible first | exact HK.out | apply Kept.alloc | apply Kept.drewN | apply Kept.drew | refine Kept.setCell ?_ (.inr GW208.out) _) | exact HK.out)) (fun k_ e_ => (HO0.out.1 k_ e_).1)); clear HO0; clear HO1; clear BK208; clear HB; clear HK; have HO0 := n0_; have HO1 := n1_; have BK208 := n2_; have HB := n3_; have HK := n4_; clear n0_ n1_ n2_ n3_ n4_; clear hg hw hp_; have hcz46_0 : w45.cell? ⟨gb208, 0, none⟩ = some (.int .i64 ((rd_T98 l2 a3).f0)) := (blk_cell BK208.out 0).trans rfl; have hcz46_1 : w45.cell? ⟨gb208, 1, none⟩ = some (.int .i64 ((rd_T98 l2 a3).f1)) := (blk_cell BK208.out 1).trans rfl; have hcz46_2 : w45.cell? ⟨gb208, 2, none⟩ = some (.int .i64 ((rd_T98 l2 a3).f2)) := (blk_cell BK208.out 2).trans rfl; have hcz46_3 : w45.cell? ⟨gb208, 3, none⟩ = some (.int .i64 ((rd_T98 l2 a3).f3)) := (blk_cell BK208.out 3).trans rfl; have hcz46_4 : w45.cell? ⟨gb208, 4, none⟩ = some (.int .i64 ((rd_T98 l2 a3).f4)) := (blk_cell BK208.out 4).trans rfl; have hfz46_0 := blk_frozen BK208.out 0; have hfz46_1 := blk_frozen BK208.out 1; have hfz46_2 := blk_frozen BK208.out 2; have hfz46_3 := blk_frozen BK208.out 3; have hfz46_4 := blk_frozen BK208.out 4; have p215 : 0 ≤ (((rd_T98 l2 a3).f3) : Int) := of_decide_eq_true (by first | (with_reducible assumption) | assumption); have q215 : ((rd_T98 l2 a3).f3) < (l1.length : Int) := of_decide_eq_true (by first | (with_reducible assumption) | assumption); obtain ⟨ad215, e215, hx215_0⟩ := Kd.at_int (Kd.R_reads' HO1.out).2.2 ((rd_T98 l2 a3).f3) p215 q215; obtain rfl : ad213 = ad215 := (by injection e215); replace p215 := eq_true p215; replace q215 := eq_true q215; have p38 : 0 ≤ (a3 : Int) := of_decide_eq_true (by first | (with_reducible assumption) | assumption); have q38 : (a3 : Int) < ((l1.length : Int) : Int) := of_decide_eq_true (by first | (with_reducible assumption) | assumption); obtain ⟨go38, co38, eo38, gb38, gl38, cl38, HG38⟩ := Kd.R_form HO1.out (by omega); (first | cases eo38 | (injection eo38 with ea_ en_ ec_; (first | subst ea_ | (injection ea_ with ea_; subst ea_)); subst ec_; clear en_)); have GB38 := Aside0.mk gb38; have GG38 := Aside0.mk HG38; clear gb38 gl38 HG38; have HMgo38 := Aside0.mk (show ((P0_ go38 ∨ P1_ go38) ∨ w.heap.size ≤ go38) from (HO1.out.1 _ rfl).1); (first | simp only [add_plain] at hx213_0 | skip); (first | simp only [add_plain] at hx215_0 | skip); obtain ⟨hx38_0, hf38_0⟩ := Kd.R_celln 0 HO1.out (a3 : Int) p38 q38; replace p38 := eq_true p38; replace q38 := eq_true q38; obtain ⟨hy47_, hz47_⟩ := Kd.R_celln 0 HO1.out (a3 : Int) (of_decide_eq_true (by first | (with_reducible assumption) | assumption)) (of_decide_eq_true (by first | (with_reducible assumption) | assumption)); have HP47 := Kd.R_putg HO1.out (a3 : Int) (rd l1 ((rd_T98 l2 a3).f3))) | ((with_reducible refine gate_store (t := 3) (p := 37) rfl ?_); refine store_event (t := 3) (p := 37) (v := ?vo_w48) (w1 := (w45.setCell ⟨go38, (a3 : Int).toNat, none⟩ (.int .i64 (rd l1 ((rd_T98 l2 a3).f3))))) ?hg ?ho ?hn ?hr ?_; (case ho => rfl); (case hg => rfl); (case hn => rfl); (case hr => first | (go_simp; done) | (go_simp; rfl)); intro w48 hw; have hg : w45.grownBy w48 (some go38) := (by rw [hw]; exact HP47.2); have hp_ : Kd.R (Kd.int .i64) 3 w48 w0.heap.size (fun k_ => ((P0_ k_ ∨ P1_ k_) ∨ w.heap.size ≤ k_) ∧ some k_ ≠ (.slice (some ⟨go36, 0, none⟩) l0.length co36 : Value).ownBlock) (.slice (some ⟨go38, 0, none⟩) l1.length co43) y216 := (by rw [hw, Ny216.out]; exact HP47.1); clear HP47; have n0_ := Aside0.mk (Kd.R_after (v := (.slice (some ⟨go38, 0, none⟩) l1.length co43)) (v1 := (.slice (some ⟨go38, 0, none⟩) l1.length co43)) (ok := (fun k_ => ((P0_ k_ ∨ P1_ k_) ∨ w.heap.size ≤ k_))) (by (with_reducible repeat (first | apply Kd.R_alloc | apply Kd.R_drewN | apply Kd.R_drew)); exact HO0.out) hg (.inl rfl)); have n1_ := Aside0.mk (hp_); have n2_ := Aside0.mk (blk_grown (g := gb208) (o := .cells #[.int .i64 ((rd_T98 l2 a3).f0), .int .i64 ((rd_T98 l2 a3).f1), .int .i64 ((rd_T98 l2 a3).f2), .int .i64 ((rd_T98 l2 a3).f3), .int .i64 ((rd_T98 l2 a3).f4)] 98 (0, 0)) (by (with_reducible repeat (first | refine blk_drewN ?_ _ | refine blk_drew ?_ | refine blk_alloc ?_ _)); exact BK208.out) hg (Kd.R_ne HO1.out BK208.out (by decide))); have n3_ := Aside0.mk ((by rw [hw]; exact below_set (HB.out) GB38.out : Below w0.heap.size w0 w48)); have n4_ := Aside0.mk (Kept.of_grown (S := (fun k_ => P0_ k_ ∨ P1_ k_)) hg (by repeat (first | (with_reducible first | exact HK.out | apply Kept.alloc | apply Kept.drewN | apply Kept.drew | refine Kept.setCell ?_ (.inr GW208.out) _) | exact HK.out)) (fun k_ e_ => (HO1.out.1 k_ e_).1)); clear HO0; clear HO1; clear BK208; clear HB; clear HK; have HO0 := n0_; have HO1 := n1_; have BK208 := n2_; have HB := n3_; have HK := n4_; clear n0_ n1_ n2_ n3_ n4_; clear hg hw hp_))
          first | go_end0 | ((try simp only [Exit.inBlock, Exit.then]); refine bodyPost_ret (results_none rfl _ _ _) rfl ?_)
          exact ⟨by first | rfl | (simp [errW_none, errW_some] <;> rfl) | (simp only [← hji33]; first | rfl | (simp [errW_none, errW_some] <;> rfl)) | (simp [*, errW_none, errW_some] <;> rfl), by (with_reducible repeat (first | apply Kd.R_alloc | apply Kd.R_drewN | apply Kd.R_drew)); exact Kd.R_mono HO0.out (fun _ hk => hk.1), by (with_reducible repeat (first | apply Kd.R_alloc | apply Kd.R_drewN | apply Kd.R_drew)); exact Kd.R_mono HO1.out (fun _ hk => hk.1), by repeat (first | (with_reducible first | exact HB.out | apply below_alloc | apply pw_below_drewN | apply below_drew1 | refine below_set ?_ GE208.out) | exact HB.out), by repeat (first | (with_reducible first | exact HK.out | apply Kept.alloc | apply Kept.drewN | apply Kept.drew | refine Kept.setCell ?_ (.inr GW208.out) _) | exact HK.out)⟩
         ·rw [if_neg c37] at H
          exact absurd H (by simp)
        ·rw [if_neg c35] at H
         exact absurd H (by simp)
       ·rw [if_neg c34] at H
        exact absurd H (by simp)
      ·rw [if_neg c32] at H
       exact absurd H (by simp)
     ·rw [if_neg c31] at H
      exact absurd H (by simp)
  ·rw [if_neg c6] at H
   exact absurd H (by simp)
 ·rw [if_neg c5] at H
  exact absurd H (by simp)
end Go.Proofs.Ytbaojaadmooogaa.PFnExactRunPieces
