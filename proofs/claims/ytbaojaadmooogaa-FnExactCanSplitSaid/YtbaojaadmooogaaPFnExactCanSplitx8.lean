-- Written for this claim by the session's own program (drive.py), over the kit's print, with contracts typed by hand.
import Derived.Test.YtbaojaadmooogaaPFnExactCanSplitx0
import Derived.Test.YtbaojaadmooogaaPFnExactCanSplitx5
import Derived.Test.YtbaojaadmooogaaPFnExactCanSplitx6
namespace Go.Proofs.Ytbaojaadmooogaa.PFnExactCanSplit
open Go.RowKit Go.Proofs.YtbaojaadmooogaaW.PrintWords Go.Proofs.YtbaojaadmooogaaW.PrintLast Go.Proofs.YtbaojaadmooogaaW.PrintMore
attribute [local go_sem] max2_int min2_int max_two min_two max_three min_three max_four min_four   -- for this text's walks alone
set_option linter.unusedVariables false
set_option linter.unusedSimpArgs false

/-! ### slices_Index_int_int: function 60 -/
def slices_Index_int_int.l0 : Nat → List Int → Int → Int → Int → Option (Int)
  | 0, _, _, _, _ => none
  | k + 1, x0, x1, x7, x8 => if x8 < x7 then (if 0 ≤ x8 then (if x8 < (x0.length : Int) then (if x1 = (rd x0 x8) then (some x8) else (slices_Index_int_int.l0 k x0 x1 x7 (wrap64 (x8 + 1)))) else (none)) else (none)) else (some (-1))
def slices_Index_int_int.f (k : Nat) (l0 : List Int) (a1 : Int) : Option (Int) := slices_Index_int_int.l0 k l0 a1 (l0.length : Int) 0
theorem slices_Index_int_int.mono_l : ∀ k, (∀ y0 y1 y2 y3, LeO (slices_Index_int_int.l0 k y0 y1 y2 y3) (slices_Index_int_int.l0 (k + 1) y0 y1 y2 y3))
  | 0 => fun _ _ _ _ r h => by simp [slices_Index_int_int.l0] at h
  | k + 1 => by
    have ih0 := slices_Index_int_int.mono_l k
    · intro y0 y1 y2 y3
      unfold slices_Index_int_int.l0
      repeat' first
      | (with_reducible exact ih0 _ _ _ _)
      | (with_reducible exact LeO.refl _)
      | (with_reducible exact LeO.none _)
      | (with_reducible refine LeO.ite ?_ ?_)
      | (with_reducible refine LeO.bind ?_ (fun _ => ?_))
      | exact ih0 _ _ _ _
      | exact LeO.none _
      | refine LeO.ite ?_ ?_
      | refine LeO.bind ?_ (fun _ => ?_)
theorem slices_Index_int_int.mono : ∀ a0 a1 k, LeO (slices_Index_int_int.f k a0 a1) (slices_Index_int_int.f (k + 1) a0 a1) := by
  intro a0 a1 k
  have ih0 := slices_Index_int_int.mono_l k
  unfold slices_Index_int_int.f
  repeat' first
      | (with_reducible exact ih0 _ _ _ _)
      | (with_reducible exact LeO.refl _)
      | (with_reducible exact LeO.none _)
      | (with_reducible refine LeO.ite ?_ ?_)
      | (with_reducible refine LeO.bind ?_ (fun _ => ?_))
      | exact ih0 _ _ _ _
      | exact LeO.none _
      | refine LeO.ite ?_ ?_
      | refine LeO.bind ?_ (fun _ => ?_)
set_option maxHeartbeats 8000000 in
set_option maxRecDepth 100000 in
theorem slices_Index_int_int.calls (k : Nat) (A0 : Option Addr) (c0 : Nat) (l0 : List Int) (a1 : Int) (r : Int) (w : World) (hr0 : Kd.C (Kd.int .i64) w A0 l0.length l0) (hc0 : l0.length ≤ c0) (h : slices_Index_int_int.f k l0 a1 = some r) :
    Calls Try.prog 60 #[.slice A0 l0.length c0, .int .i64 a1] w fun e w' => e = .returned (.int .i64 r) ∧ Drawn0 w w' := by
  have HR0 := Aside0.mk hr0
  have HC0 := Aside0.mk hc0
  clear hr0 hc0
  have H : (slices_Index_int_int.l0 k l0 a1 (l0.length : Int) 0) = some r := h
  clear h
  have H' := Aside0.mk H
  clear H
  go_enter Try.func60, Try.ntmps60
  go_wp2
  go_loopg [8] k (fun kq v8 w' => ∃ (x8_1 : Int), v8 = .int .i64 x8_1 ∧ Aside0 (slices_Index_int_int.l0 kq l0 a1 (l0.length : Int) x8_1 = some r) ∧ Aside0 (kq ≤ k) ∧ Drawn0 w w')
  case atStart => exact ⟨(0), (by first | rfl | (simp; done) | (simp [*]; done)), H', ⟨Nat.le_refl _⟩, by repeat (first | exact Drawn0.refl _ | apply Drawn0.step)⟩
  case round =>
    clear H'
    try clear p2
    obtain ⟨x8_1, rfl, HA, HK1, ⟨m1, rfl⟩⟩ := hrel
    cases gk with
    | zero => exact absurd HA.out (by simp [slices_Index_int_int.l0])
    | succ k1 =>
      have H := HA.out
      clear HA
      simp only [slices_Index_int_int.l0] at H
      by_cases c3 : x8_1 < (l0.length : Int)
      · rw [if_pos c3] at H
        have c3b0 : decide (x8_1 < (l0.length : Int)) = true := decide_eq_true c3
        clear c3
        by_cases c4 : 0 ≤ x8_1
        · rw [if_pos c4] at H
          have c4b0 : decide (0 ≤ x8_1) = true := decide_eq_true c4
          clear c4
          by_cases c5 : x8_1 < (l0.length : Int)
          · rw [if_pos c5] at H
            have c5b0 : decide (x8_1 < (l0.length : Int)) = true := decide_eq_true c5
            clear c5
            by_cases c6 : a1 = (rd l0 x8_1)
            · rw [if_pos c6] at H
              have c6b0 : (a1 == (rd l0 x8_1)) = true := beq_iff_eq.mpr c6
              have c6b1 : (a1 != (rd l0 x8_1)) = false := bne_eq_false_iff_eq.mpr c6
              clear c6
              obtain rfl := Option.some.inj H
              have p273 : 0 ≤ (x8_1 : Int) := of_decide_eq_true (by first | (with_reducible assumption) | assumption)
              have q273 : x8_1 < (l0.length : Int) := of_decide_eq_true (by first | (with_reducible assumption) | assumption)
              obtain ⟨ad273, e273, hx273_0⟩ := Kd.at_int HR0.out x8_1 p273 q273
              cases e273
              replace p273 := eq_true p273
              replace q273 := eq_true q273
              go_wp2
              go_ret
              exact ⟨by first | rfl | (simp; done) | (simp [*]; done), by repeat (first | exact Drawn0.refl _ | apply Drawn0.step)⟩
            · rw [if_neg c6] at H
              have c6b0 : (a1 == (rd l0 x8_1)) = false := beq_eq_false_iff_ne.mpr c6
              have c6b1 : (a1 != (rd l0 x8_1)) = true := bne_iff_ne.mpr c6
              have H' := Aside0.mk H
              clear H
              have p273 : 0 ≤ (x8_1 : Int) := of_decide_eq_true (by first | (with_reducible assumption) | assumption)
              have q273 : x8_1 < (l0.length : Int) := of_decide_eq_true (by first | (with_reducible assumption) | assumption)
              obtain ⟨ad273, e273, hx273_0⟩ := Kd.at_int HR0.out x8_1 p273 q273
              cases e273
              replace p273 := eq_true p273
              replace q273 := eq_true q273
              go_wp2
              go_roundg k1
              case measure => have := HK1.out; omega
              case rel => exact ⟨(wrap64 (x8_1 + 1)), (by first | rfl | (simp; done) | (simp [*]; done)), H', ⟨by have := HK1.out; omega⟩, by repeat (first | exact Drawn0.refl _ | apply Drawn0.step)⟩
          · rw [if_neg c5] at H
            exact absurd H (by simp)
        · rw [if_neg c4] at H
          exact absurd H (by simp)
      · rw [if_neg c3] at H
        have c3b0 : decide (x8_1 < (l0.length : Int)) = false := decide_eq_false c3
        clear c3
        obtain rfl := Option.some.inj H
        go_wp2
        go_ret
        exact ⟨by first | rfl | (simp; done) | (simp [*]; done), by repeat (first | exact Drawn0.refl _ | apply Drawn0.step)⟩

/-! ### slices_Contains_int_int: function 84 -/
def slices_Contains_int_int.f (k : Nat) (l0 : List Int) (a1 : Int) : Option (Bool) := (slices_Index_int_int.f k l0 a1).bind fun t274 => (some (decide (t274 ≥ 0)))
theorem slices_Contains_int_int.mono : ∀ a0 a1 k, LeO (slices_Contains_int_int.f k a0 a1) (slices_Contains_int_int.f (k + 1) a0 a1) := by
  intro a0 a1 k
  unfold slices_Contains_int_int.f
  repeat' first
      | (with_reducible exact slices_Index_int_int.mono _ _ _)
      | (with_reducible exact LeO.refl _)
      | (with_reducible exact LeO.none _)
      | (with_reducible refine LeO.ite ?_ ?_)
      | (with_reducible refine LeO.bind ?_ (fun _ => ?_))
      | exact slices_Index_int_int.mono _ _ _
      | exact LeO.none _
      | refine LeO.ite ?_ ?_
      | refine LeO.bind ?_ (fun _ => ?_)
set_option maxHeartbeats 8000000 in
set_option maxRecDepth 100000 in
theorem slices_Contains_int_int.calls (k : Nat) (A0 : Option Addr) (c0 : Nat) (l0 : List Int) (a1 : Int) (r : Bool) (w : World) (hr0 : Kd.C (Kd.int .i64) w A0 l0.length l0) (hc0 : l0.length ≤ c0) (h : slices_Contains_int_int.f k l0 a1 = some r) :
    Calls Try.prog 84 #[.slice A0 l0.length c0, .int .i64 a1] w fun e w' => e = .returned (.bool r) ∧ Drawn0 w w' := by
  have HR0 := Aside0.mk hr0
  have HC0 := Aside0.mk hc0
  clear hr0 hc0
  have H : ((slices_Index_int_int.f k l0 a1).bind fun t274 => (some (decide (t274 ≥ 0)))) = some r := h
  clear h
  replace H := Option.bind_eq_some_iff.mp H
  obtain ⟨t274, A30, H⟩ := H
  replace H : (some (decide (t274 ≥ 0))) = some r := H
  have A3 := Aside0.mk A30
  clear A30
  obtain rfl := Option.some.inj H
  go_enter Try.func84, Try.ntmps84
  go_wp2_with (first | ((with_reducible refine gate_callee (f := 60) rfl ?_); refine goesL_ (some 7) rfl rfl Try.func60 (by kernel_rfl) rfl #[.slice A0 l0.length c0, .int .i64 a1] rfl (by (try simp only [List.map_toArray, List.map_cons, List.map_nil]); first | done | rfl | (simp only [List.length_drop, List.length_take]; rfl)) ?_; (with_reducible refine (slices_Index_int_int.calls k _ _ l0 a1 t274 _ ?side1 ?side2 A3.out).mono ?_); (case side1 => repeat (first | exact HR0.out | (with_reducible refine Kd.C_alloc ?_ _) | (with_reducible refine Kd.C_drewN ?_ _) | (with_reducible refine Kd.C_drew ?_))); (case side2 => exact HC0.out); rintro e w' ⟨rfl, ⟨nd, rfl⟩⟩; refine ⟨_, rfl, ?_⟩))
  go_ret
  exact ⟨by first | rfl | (simp; done) | (simp [*]; done), by repeat (first | exact Drawn0.refl _ | apply Drawn0.step)⟩

/-! ### slices_IndexFunc_int_int_105: function 105, by hand -/
set_option maxHeartbeats 2000000 in
/-- slices.IndexFunc at [][]int. -/
theorem IndexFunc_rows (g : Nat) (lb : Array Value) (eg : ∀ args w, (callFunc g args).run Try.prog w = .ok (.enter g args) w) (A : Option Addr) (c : Nat) (xs : List (List Int)) (p : List Int → Bool) (w : World)
    (hp : Pred1 (Kd.slice 3 (Kd.int .i64)) g lb xs p w) (hr : Kd.C (Kd.slice 3 (Kd.int .i64)) w A xs.length xs) :
    Calls Try.prog 105 #[.slice A xs.length c, .func (.func g) #[] lb] w fun e w' => e = .returned (.int .i64 (idxF p xs)) ∧ Below w.heap.size w w' := by
  have hm : xs.length ≤ 9223372036854775807 := hr.2.1
  have HR := Aside0.mk hr
  have HP := Aside0.mk hp
  clear hr hp
  go_enter Try.func105, Try.ntmps105
  go_wp2
  go_loopg [5, 8] xs.length (fun gg _ s8 wr => ∃ kk : Nat, kk ≤ xs.length ∧ xs.length - kk ≤ gg ∧ s8 = .int .i64 kk ∧ Aside0 (Below w.heap.size w wr) ∧ Aside0 (∀ j, j < kk → p (xs.getD j []) = false))
  case atStart => exact ⟨0, Nat.zero_le _, by omega, rfl, ⟨Below.refl _ w⟩, ⟨fun j hj => absurd hj (Nat.not_lt_zero _)⟩⟩
  case round =>
    obtain ⟨kk, hkk, hg, rfl, BW, AB⟩ := hrel
    by_cases hlt : kk < xs.length
    · have hltz : (kk : Int) < (xs.length : Int) := by omega
      obtain ⟨ad, cs, e0, _, hK, hcell⟩ := Kd.C_get HR.out [] (kk : Int) (by omega) hltz
      rw [Int.toNat_natCast] at hK hcell
      cases e0
      have hK2 := Kd.K_below _ BW.out hK
      obtain ⟨A1, c1, rfl, hl1, hC1⟩ := hK
      have hc1 : wr.cell? (ad.add kk) = some (.slice A1 (xs.getD kk []).length c1) := by
        have h1 := pw_cell_below BW.out (hcell 0 _ rfl)
        have hsz : (Kd.slice 3 (Kd.int .i64)).sz = 1 := rfl
        rwa [hsz, Nat.mul_one, Nat.add_zero] at h1
      have hcall := HP.out wr (xs.getD kk []) _ BW.out (mem_getD xs [] kk hlt) hK2
      clear hcell hC1 hK2 hl1
      generalize hy : xs.getD kk [] = y at hc1 hcall
      have HY := Aside0.mk hy
      clear hy
      generalize hq : p y = q at hcall
      have HQ := Aside0.mk hq
      clear hq
      cases q with
      | true =>
        go_wp2_with (go_at_fn g; refine hcall.mono ?_; rintro e w' ⟨rfl, hb'⟩)
        go_ret
        refine ⟨?_, below_then BW.out BW.out.size hb'⟩
        rw [idxF_hit p xs [] kk hlt (by rw [HY.out]; exact HQ.out) AB.out]
        rfl
      | false =>
        go_wp2_with (go_at_fn g; refine hcall.mono ?_; rintro e w' ⟨rfl, hb'⟩)
        go_roundg (xs.length - (kk + 1))
        case measure => omega
        case rel =>
          refine ⟨kk + 1, by omega, by omega, by go_num, ⟨below_then BW.out BW.out.size hb'⟩, ⟨fun j hj => ?_⟩⟩
          by_cases e : j = kk
          · subst e
            rw [HY.out]
            exact HQ.out
          · exact AB.out j (by omega)
    · have hltz : ¬ (kk : Int) < (xs.length : Int) := by omega
      have : kk = xs.length := by omega
      subst this
      go_wp2
      go_ret
      refine ⟨?_, BW.out⟩
      rw [idxF_miss p xs [] AB.out]
      rfl

/-! ### slices_ContainsFunc_int_int: function 69, by hand -/
/-- slices.ContainsFunc at [][]int. -/
theorem ContainsFunc_rows (g : Nat) (lb : Array Value) (eg : ∀ args w, (callFunc g args).run Try.prog w = .ok (.enter g args) w) (A : Option Addr) (c : Nat) (xs : List (List Int)) (p : List Int → Bool) (w : World)
    (hp : Pred1 (Kd.slice 3 (Kd.int .i64)) g lb xs p w) (hr : Kd.C (Kd.slice 3 (Kd.int .i64)) w A xs.length xs) :
    Calls Try.prog 69 #[.slice A xs.length c, .func (.func g) #[] lb] w fun e w' => e = .returned (.bool (xs.any p)) ∧ Below w.heap.size w w' := by
  have H := IndexFunc_rows g lb eg A c xs p w hp hr
  rw [← idxF_any p xs]
  clear hp hr
  generalize idxF p xs = q at H ⊢
  go_enter Try.func69, Try.ntmps69
  go_wp2_with (go_at_call 105; refine H.mono ?_; rintro e w' ⟨rfl, hb⟩)
  go_ret
  exact ⟨by first | rfl | simp, hb⟩

/-! ### impl_isRising: function 82 -/
def impl_isRising.l0 : Nat → List Int → Int → Int → List Int → Int → Int → Option (Bool)
  | 0, _, _, _, _, _, _ => none
  | k + 1, x0, x1, x2, x9, x10, x11 => if x11 < x10 then (if 0 ≤ x11 then (if x11 < (x9.length : Int) then ((impl_within.f (rd x9 x11) x1 x2).bind fun t276 => (if t276 = true then (if x11 > 0 then (if 0 ≤ (wrap64 (x11 - 1)) then (if (wrap64 (x11 - 1)) < (x0.length : Int) then (if (rd x0 (wrap64 (x11 - 1))) ≥ (rd x9 x11) then (some false) else (impl_isRising.l0 k x0 x1 x2 x9 x10 (wrap64 (x11 + 1)))) else (none)) else (none)) else (impl_isRising.l0 k x0 x1 x2 x9 x10 (wrap64 (x11 + 1)))) else (some false))) else (none)) else (none)) else (some true)
def impl_isRising.f (k : Nat) (l0 : List Int) (a1 : Int) (a2 : Int) : Option (Bool) := impl_isRising.l0 k l0 a1 a2 l0 (l0.length : Int) 0
theorem impl_isRising.mono_l : ∀ k, (∀ y0 y1 y2 y3 y4 y5, LeO (impl_isRising.l0 k y0 y1 y2 y3 y4 y5) (impl_isRising.l0 (k + 1) y0 y1 y2 y3 y4 y5))
  | 0 => fun _ _ _ _ _ _ r h => by simp [impl_isRising.l0] at h
  | k + 1 => by
    have ih0 := impl_isRising.mono_l k
    · intro y0 y1 y2 y3 y4 y5
      unfold impl_isRising.l0
      repeat' first
      | (with_reducible exact ih0 _ _ _ _ _ _)
      | (with_reducible exact LeO.refl _)
      | (with_reducible exact LeO.none _)
      | (with_reducible refine LeO.ite ?_ ?_)
      | (with_reducible refine LeO.bind ?_ (fun _ => ?_))
      | exact ih0 _ _ _ _ _ _
      | exact LeO.none _
      | refine LeO.ite ?_ ?_
      | refine LeO.bind ?_ (fun _ => ?_)
theorem impl_isRising.mono : ∀ a0 a1 a2 k, LeO (impl_isRising.f k a0 a1 a2) (impl_isRising.f (k + 1) a0 a1 a2) := by
  intro a0 a1 a2 k
  have ih0 := impl_isRising.mono_l k
  unfold impl_isRising.f
  repeat' first
      | (with_reducible exact ih0 _ _ _ _ _ _)
      | (with_reducible exact LeO.refl _)
      | (with_reducible exact LeO.none _)
      | (with_reducible refine LeO.ite ?_ ?_)
      | (with_reducible refine LeO.bind ?_ (fun _ => ?_))
      | exact ih0 _ _ _ _ _ _
      | exact LeO.none _
      | refine LeO.ite ?_ ?_
      | refine LeO.bind ?_ (fun _ => ?_)
set_option maxHeartbeats 8000000 in
set_option maxRecDepth 100000 in
theorem impl_isRising.calls (k : Nat) (A0 : Option Addr) (c0 : Nat) (l0 : List Int) (a1 : Int) (a2 : Int) (r : Bool) (w : World) (hr0 : Kd.C (Kd.int .i64) w A0 l0.length l0) (hc0 : l0.length ≤ c0) (h : impl_isRising.f k l0 a1 a2 = some r) :
    Calls Try.prog 82 #[.slice A0 l0.length c0, .int .i64 a1, .int .i64 a2] w fun e w' => e = .returned (.bool r) ∧ Drawn0 w w' := by
  have HR0 := Aside0.mk hr0
  have HC0 := Aside0.mk hc0
  clear hr0 hc0
  have H : (impl_isRising.l0 k l0 a1 a2 l0 (l0.length : Int) 0) = some r := h
  clear h
  have H' := Aside0.mk H
  clear H
  go_enter Try.func82, Try.ntmps82
  go_wp2
  go_loopg [11] k (fun kq v11 w' => ∃ (x11_1 : Int), v11 = .int .i64 x11_1 ∧ Aside0 (impl_isRising.l0 kq l0 a1 a2 l0 (l0.length : Int) x11_1 = some r) ∧ Aside0 (kq ≤ k) ∧ Drawn0 w w')
  case atStart => exact ⟨(0), (by first | rfl | (simp; done) | (simp [*]; done)), H', ⟨Nat.le_refl _⟩, by repeat (first | exact Drawn0.refl _ | apply Drawn0.step)⟩
  case round =>
    clear H'
    try clear p2
    obtain ⟨x11_1, rfl, HA, HK1, ⟨m1, rfl⟩⟩ := hrel
    cases gk with
    | zero => exact absurd HA.out (by simp [impl_isRising.l0])
    | succ k1 =>
      have H := HA.out
      clear HA
      simp only [impl_isRising.l0] at H
      by_cases c4 : x11_1 < (l0.length : Int)
      · rw [if_pos c4] at H
        have c4b0 : decide (x11_1 < (l0.length : Int)) = true := decide_eq_true c4
        clear c4
        by_cases c5 : 0 ≤ x11_1
        · rw [if_pos c5] at H
          have c5b0 : decide (0 ≤ x11_1) = true := decide_eq_true c5
          clear c5
          by_cases c6 : x11_1 < (l0.length : Int)
          · rw [if_pos c6] at H
            have c6b0 : decide (x11_1 < (l0.length : Int)) = true := decide_eq_true c6
            clear c6
            replace H := Option.bind_eq_some_iff.mp H
            obtain ⟨t276, A70, H⟩ := H
            replace H : (if t276 = true then (if x11_1 > 0 then (if 0 ≤ (wrap64 (x11_1 - 1)) then (if (wrap64 (x11_1 - 1)) < (l0.length : Int) then (if (rd l0 (wrap64 (x11_1 - 1))) ≥ (rd l0 x11_1) then (some false) else (impl_isRising.l0 k1 l0 a1 a2 l0 (l0.length : Int) (wrap64 (x11_1 + 1)))) else (none)) else (none)) else (impl_isRising.l0 k1 l0 a1 a2 l0 (l0.length : Int) (wrap64 (x11_1 + 1)))) else (some false)) = some r := H
            have A7 := Aside0.mk A70
            clear A70
            by_cases c8 : t276 = true
            · subst c8
              have H1 : (if x11_1 > 0 then (if 0 ≤ (wrap64 (x11_1 - 1)) then (if (wrap64 (x11_1 - 1)) < (l0.length : Int) then (if (rd l0 (wrap64 (x11_1 - 1))) ≥ (rd l0 x11_1) then (some false) else (impl_isRising.l0 k1 l0 a1 a2 l0 (l0.length : Int) (wrap64 (x11_1 + 1)))) else (none)) else (none)) else (impl_isRising.l0 k1 l0 a1 a2 l0 (l0.length : Int) (wrap64 (x11_1 + 1)))) = some r := by rw [if_pos rfl] at H; exact H
              clear H
              have H := H1
              clear H1
              by_cases c9 : x11_1 > 0
              · rw [if_pos c9] at H
                have c9b0 : decide (0 < x11_1) = true := decide_eq_true c9
                clear c9
                obtain ⟨ji10, hji10⟩ : ∃ j_ : Int, (wrap64 (x11_1 - 1)) = j_ := ⟨_, rfl⟩
                replace H : (if 0 ≤ (ji10) then (if (ji10) < (l0.length : Int) then (if (rd l0 (ji10)) ≥ (rd l0 x11_1) then (some false) else (impl_isRising.l0 k1 l0 a1 a2 l0 (l0.length : Int) (wrap64 (x11_1 + 1)))) else (none)) else (none)) = some r := by first | (rw [hji10] at H; exact H) | (simp only [hji10] at H ⊢; exact H)
                (try rw [hji10] at A7)
                have hji10w : (IntKind.i64.wrap (x11_1 - 1)) = ji10 := (i64_w _).trans hji10
                by_cases c11 : 0 ≤ (ji10)
                · rw [if_pos c11] at H
                  have c11b0 : decide (0 ≤ (ji10)) = true := decide_eq_true c11
                  clear c11
                  by_cases c12 : (ji10) < (l0.length : Int)
                  · rw [if_pos c12] at H
                    have c12b0 : decide ((ji10) < (l0.length : Int)) = true := decide_eq_true c12
                    clear c12
                    by_cases c13 : (rd l0 (ji10)) ≥ (rd l0 x11_1)
                    · rw [if_pos c13] at H
                      have c13b0 : decide ((rd l0 x11_1) ≤ (rd l0 (ji10))) = true := decide_eq_true c13
                      clear c13
                      obtain rfl := Option.some.inj H
                      have p275 : 0 ≤ (x11_1 : Int) := of_decide_eq_true (by first | (with_reducible assumption) | assumption)
                      have q275 : x11_1 < (l0.length : Int) := of_decide_eq_true (by first | (with_reducible assumption) | assumption)
                      obtain ⟨ad275, e275, hx275_0⟩ := Kd.at_int HR0.out x11_1 p275 q275
                      cases e275
                      replace p275 := eq_true p275
                      replace q275 := eq_true q275
                      go_wp2_with (first | ((with_reducible refine gate_callee (f := 48) rfl ?_); refine goesL_ (some 19) rfl rfl Try.func48 (by kernel_rfl) rfl #[.int .i64 (rd l0 x11_1), .int .i64 a1, .int .i64 a2] rfl (by (try simp only [List.map_toArray, List.map_cons, List.map_nil]); first | done | rfl | (simp only [List.length_drop, List.length_take]; rfl)) ?_; (with_reducible refine (impl_within.calls (rd l0 x11_1) a1 a2 true _ A7.out).mono ?_); rintro e w' ⟨rfl, ⟨nd, rfl⟩⟩; refine ⟨_, rfl, ?_⟩; have p277 : 0 ≤ ((ji10) : Int) := of_decide_eq_true (by first | (with_reducible assumption) | assumption); have q277 : (ji10) < (l0.length : Int) := of_decide_eq_true (by first | (with_reducible assumption) | assumption); obtain ⟨ad277, e277, hx277_0⟩ := Kd.at_int HR0.out (ji10) p277 q277; obtain rfl : ad275 = ad277 := (by injection e277); replace p277 := eq_true p277; replace q277 := eq_true q277))
                      go_ret
                      exact ⟨by first | rfl | (simp; done) | (simp only [← hji10] <;> (first | rfl | simp)) | (simp [*]; done), by repeat (first | exact Drawn0.refl _ | apply Drawn0.step)⟩
                    · rw [if_neg c13] at H
                      have c13b0 : decide ((rd l0 x11_1) ≤ (rd l0 (ji10))) = false := decide_eq_false c13
                      clear c13
                      have H' := Aside0.mk H
                      clear H
                      have p275 : 0 ≤ (x11_1 : Int) := of_decide_eq_true (by first | (with_reducible assumption) | assumption)
                      have q275 : x11_1 < (l0.length : Int) := of_decide_eq_true (by first | (with_reducible assumption) | assumption)
                      obtain ⟨ad275, e275, hx275_0⟩ := Kd.at_int HR0.out x11_1 p275 q275
                      cases e275
                      replace p275 := eq_true p275
                      replace q275 := eq_true q275
                      go_wp2_with (first | ((with_reducible refine gate_callee (f := 48) rfl ?_); refine goesL_ (some 19) rfl rfl Try.func48 (by kernel_rfl) rfl #[.int .i64 (rd l0 x11_1), .int .i64 a1, .int .i64 a2] rfl (by (try simp only [List.map_toArray, List.map_cons, List.map_nil]); first | done | rfl | (simp only [List.length_drop, List.length_take]; rfl)) ?_; (with_reducible refine (impl_within.calls (rd l0 x11_1) a1 a2 true _ A7.out).mono ?_); rintro e w' ⟨rfl, ⟨nd, rfl⟩⟩; refine ⟨_, rfl, ?_⟩; have p277 : 0 ≤ ((ji10) : Int) := of_decide_eq_true (by first | (with_reducible assumption) | assumption); have q277 : (ji10) < (l0.length : Int) := of_decide_eq_true (by first | (with_reducible assumption) | assumption); obtain ⟨ad277, e277, hx277_0⟩ := Kd.at_int HR0.out (ji10) p277 q277; obtain rfl : ad275 = ad277 := (by injection e277); replace p277 := eq_true p277; replace q277 := eq_true q277))
                      go_roundg k1
                      case measure => have := HK1.out; omega
                      case rel => exact ⟨(wrap64 (x11_1 + 1)), (by first | rfl | (simp; done) | (simp [*]; done)), H', ⟨by have := HK1.out; omega⟩, by repeat (first | exact Drawn0.refl _ | apply Drawn0.step)⟩
                  · rw [if_neg c12] at H
                    exact absurd H (by simp)
                · rw [if_neg c11] at H
                  exact absurd H (by simp)
              · rw [if_neg c9] at H
                have c9b0 : decide (0 < x11_1) = false := decide_eq_false c9
                clear c9
                have H' := Aside0.mk H
                clear H
                have p275 : 0 ≤ (x11_1 : Int) := of_decide_eq_true (by first | (with_reducible assumption) | assumption)
                have q275 : x11_1 < (l0.length : Int) := of_decide_eq_true (by first | (with_reducible assumption) | assumption)
                obtain ⟨ad275, e275, hx275_0⟩ := Kd.at_int HR0.out x11_1 p275 q275
                cases e275
                replace p275 := eq_true p275
                replace q275 := eq_true q275
                go_wp2_with (first | ((with_reducible refine gate_callee (f := 48) rfl ?_); refine goesL_ (some 19) rfl rfl Try.func48 (by kernel_rfl) rfl #[.int .i64 (rd l0 x11_1), .int .i64 a1, .int .i64 a2] rfl (by (try simp only [List.map_toArray, List.map_cons, List.map_nil]); first | done | rfl | (simp only [List.length_drop, List.length_take]; rfl)) ?_; (with_reducible refine (impl_within.calls (rd l0 x11_1) a1 a2 true _ A7.out).mono ?_); rintro e w' ⟨rfl, ⟨nd, rfl⟩⟩; refine ⟨_, rfl, ?_⟩))
                go_roundg k1
                case measure => have := HK1.out; omega
                case rel => exact ⟨(wrap64 (x11_1 + 1)), (by first | rfl | (simp; done) | (simp [*]; done)), H', ⟨by have := HK1.out; omega⟩, by repeat (first | exact Drawn0.refl _ | apply Drawn0.step)⟩
            · replace c8 := Bool.eq_false_iff.mpr c8
              subst c8
              have H1 : (some false) = some r := by rw [if_neg (show ¬ (false = true) by decide)] at H; exact H
              clear H
              have H := H1
              clear H1
              obtain rfl := Option.some.inj H
              have p275 : 0 ≤ (x11_1 : Int) := of_decide_eq_true (by first | (with_reducible assumption) | assumption)
              have q275 : x11_1 < (l0.length : Int) := of_decide_eq_true (by first | (with_reducible assumption) | assumption)
              obtain ⟨ad275, e275, hx275_0⟩ := Kd.at_int HR0.out x11_1 p275 q275
              cases e275
              replace p275 := eq_true p275
              replace q275 := eq_true q275
              go_wp2_with (first | ((with_reducible refine gate_callee (f := 48) rfl ?_); refine goesL_ (some 19) rfl rfl Try.func48 (by kernel_rfl) rfl #[.int .i64 (rd l0 x11_1), .int .i64 a1, .int .i64 a2] rfl (by (try simp only [List.map_toArray, List.map_cons, List.map_nil]); first | done | rfl | (simp only [List.length_drop, List.length_take]; rfl)) ?_; (with_reducible refine (impl_within.calls (rd l0 x11_1) a1 a2 false _ A7.out).mono ?_); rintro e w' ⟨rfl, ⟨nd, rfl⟩⟩; refine ⟨_, rfl, ?_⟩))
              go_ret
              exact ⟨by first | rfl | (simp; done) | (simp [*]; done), by repeat (first | exact Drawn0.refl _ | apply Drawn0.step)⟩
          · rw [if_neg c6] at H
            exact absurd H (by simp)
        · rw [if_neg c5] at H
          exact absurd H (by simp)
      · rw [if_neg c4] at H
        have c4b0 : decide (x11_1 < (l0.length : Int)) = false := decide_eq_false c4
        clear c4
        obtain rfl := Option.some.inj H
        go_wp2
        go_ret
        exact ⟨by first | rfl | (simp; done) | (simp [*]; done), by repeat (first | exact Drawn0.refl _ | apply Drawn0.step)⟩

/-! ### impl_GoodLinks_1: function 127, by hand -/
-- PURE BLOCK base
theorem w64 {i : Int} (h0 : -9223372036854775808 ≤ i) (h1 : i ≤ 9223372036854775807) : wrap64 i = i := by
  unfold wrap64
  omega

theorem rdn (l : List Int) (i : Nat) : rd l (i : Int) = l.getD i 0 := by simp [rd]

/-- A round of a loop, then what it comes to. -/
theorem ev_step {α : Type} {g f : Nat → Option α} {r : α} (k : Ev f r) (h : ∀ k, g (k + 1) = f k) : Ev g r := Ev.step h k
theorem ev_some {α : Type} {g : Nat → Option α} {r : α} (h : ∀ k, g k = some r) : Ev g r := ⟨0, fun k _ => h k⟩
theorem ev_stop {α : Type} {g : Nat → Option α} {r : α} (h : ∀ k, g (k + 1) = some r) : Ev g r := Ev.step h (Ev.now r)
theorem ev_bind {α β : Type} {g : Nat → Option α} {f : Nat → α → Option β} {a : α} {r : β} (h : Ev g a) (k : Ev (fun n => f n a) r) : Ev (fun n => (g n).bind (f n)) r := Ev.bind h k
theorem ev_some_bind {α β : Type} {g : Option α} {f : Nat → α → Option β} {a : α} {r : β} (h : g = some a) (k : Ev (fun n => f n a) r) : Ev (fun n => g.bind (f n)) r := by
  subst h
  exact k
theorem ev_ite_pos {α : Type} {c : Prop} [Decidable c] {g f : Nat → Option α} {r : α} (hc : c) (h : Ev g r) : Ev (fun n => if c then g n else f n) r := Ev.congr (fun _ => if_pos hc) h
theorem ev_ite_neg {α : Type} {c : Prop} [Decidable c] {g f : Nat → Option α} {r : α} (hc : ¬ c) (h : Ev f r) : Ev (fun n => if c then g n else f n) r := Ev.congr (fun _ => if_neg hc) h

-- PURE BLOCK within
theorem within_tells (a b c : Int) : impl_within.f a b c = some (decide (b ≤ a) && decide (a ≤ c)) := by
  unfold impl_within.f
  by_cases h : a ≥ b
  · rw [if_pos h]; simp [show b ≤ a from h]
  · rw [if_neg h]; simp [show ¬ b ≤ a from h]

-- PURE BLOCK rise
def okAt (l : List Int) (a b : Int) (i : Nat) : Bool := (decide (a ≤ l.getD i 0) && decide (l.getD i 0 ≤ b)) && (decide (i = 0) || decide (l.getD (i - 1) 0 < l.getD i 0))
/-- Rising numbers from a to b. -/
def riseB (l : List Int) (a b : Int) : Bool := (List.range l.length).all (okAt l a b)
theorem rise_l (l : List Int) (a b : Int) (hl : l.length ≤ 4611686018427387904) : ∀ (d i : Nat), i + d = l.length → Ev (fun k => impl_isRising.l0 k l a b l (l.length : Int) (i : Int)) ((List.range' i d).all (okAt l a b))
  | 0, i, h => ev_stop fun k => by
    rw [impl_isRising.l0, if_neg (by omega)]
    rfl
  | d + 1, i, h => by
    have ih := rise_l l a b hl d (i + 1) (by omega)
    have h1 : wrap64 ((i : Int) + 1) = ((i + 1 : Nat) : Int) := by rw [w64 (by omega) (by omega)]; omega
    have key : ∀ k, impl_isRising.l0 (k + 1) l a b l (l.length : Int) (i : Int) = if okAt l a b i = true then impl_isRising.l0 k l a b l (l.length : Int) ((i + 1 : Nat) : Int) else some false := by
      intro k
      rw [impl_isRising.l0, if_pos (by omega), if_pos (by omega), if_pos (by omega), within_tells, Option.bind_some, h1, rdn]
      unfold okAt
      cases hw : (decide (a ≤ l.getD i 0) && decide (l.getD i 0 ≤ b)) with
      | false => simp
      | true =>
        rw [if_pos rfl]
        by_cases h0 : i = 0
        · rw [if_neg (by omega)]
          simp [h0]
        · have h2 : wrap64 ((i : Int) - 1) = ((i - 1 : Nat) : Int) := by rw [w64 (by omega) (by omega)]; omega
          rw [if_pos (by omega), h2, if_pos (by omega), if_pos (by omega), rdn]
          by_cases h3 : l.getD (i - 1) 0 ≥ l.getD i 0
          · rw [if_pos h3, if_neg]
            simp only [Bool.true_and, Bool.or_eq_true, decide_eq_true_eq]
            omega
          · rw [if_neg h3, if_pos]
            simp only [Bool.true_and, Bool.or_eq_true, decide_eq_true_eq]
            omega
    rw [List.range'_succ, List.all_cons]
    refine Ev.step key ?_
    cases okAt l a b i with
    | true => simpa using ih
    | false => exact ⟨0, fun k _ => by simp⟩
theorem rise_tells (l : List Int) (a b : Int) (hl : l.length ≤ 4611686018427387904) : Ev (fun k => impl_isRising.f k l a b) (riseB l a b) := by
  have h := rise_l l a b hl l.length 0 (by omega)
  unfold riseB
  rw [List.range_eq_range']
  exact h

theorem h_w64 {i : Int} (h0 : -9223372036854775808 ≤ i) (h1 : i ≤ 9223372036854775807) : wrap64 i = i := by
  unfold wrap64
  omega
theorem h_rd (l : List Int) (i : Nat) : rd l (i : Int) = l.getD i 0 := by simp [rd]
theorem h_C_le {α : Type} {d : Kd α} {w : World} {A : Option Addr} {n : Nat} {xs : List α} (h : d.C w A n xs) : n ≤ 9223372036854775807 := h.2.1
theorem h_GoodLinks1 (B : Nat) (A : Option Addr) (c : Nat) (l : List (List Int)) (w : World) (hB : B < w.heap.size) (hl : l.length ≤ 4611686018427387904) (hcell : w.cell? ⟨B, 0, none⟩ = some (.slice A l.length c)) (hs : ∀ x ∈ l, x.length ≤ 4611686018427387904) :
    Pred1 (Kd.slice 3 (Kd.int .i64)) 127 #[.pointer (some ⟨B, 0, none⟩)] l (fun row => !riseB row 0 ((l.length : Int) - 1)) w := by
  intro W x v hb hx hK
  obtain ⟨A1, c1, e1, hl1, hC1⟩ := hK
  obtain rfl : v = .slice A1 x.length c1 := by simpa using e1
  obtain ⟨k, hk⟩ := (rise_tells x 0 ((l.length : Int) - 1) (hs x hx)).rounds
  have hc0 : W.cell? ⟨B, 0, none⟩ = some (.slice A l.length c) := (hb.cell (p := ⟨B, 0, none⟩) hB).trans hcell
  have HC := Lib.hid (impl_isRising.calls k A1 c1 x 0 ((l.length : Int) - 1) _ W hC1 hl1 hk)
  clear hcell hb hk hC1 e1
  show Calls Try.prog 127 #[.slice A1 x.length c1, .pointer (some ⟨B, 0, none⟩)] W _
  go_enter Try.func127, Try.ntmps127
  go_wp2_with (go_at_call 82; refine HC.out.mono ?_; rintro e w' ⟨rfl, hd⟩)
  go_ret
  exact ⟨by first | rfl | simp, hd.below⟩

/-! ### impl_GoodLinks: function 113, by hand -/
def impl_GoodLinks.f (l0 : List (List Int)) : Option (Bool) := if (∀ x ∈ l0, x.length ≤ 4611686018427387904) then some (decide (l0.length ≤ 12) && l0.all fun row => riseB row 0 ((l0.length : Int) - 1)) else none
set_option maxHeartbeats 8000000 in
set_option maxRecDepth 100000 in
theorem impl_GoodLinks.calls (A0 : Option Addr) (c0 : Nat) (l0 : List (List Int)) (r : Bool) (w : World) (hr0 : Kd.C (Kd.slice 3 (Kd.int .i64)) w A0 l0.length l0) (hc0 : l0.length ≤ c0) (h : impl_GoodLinks.f l0 = some r) :
    Calls Try.prog 113 #[.slice A0 l0.length c0] w fun e w' => e = .returned (.bool r) ∧ Below w.heap.size w w' := by
  unfold impl_GoodLinks.f at h
  by_cases hs : ∀ x ∈ l0, x.length ≤ 4611686018427387904
  · rw [if_pos hs] at h
    obtain rfl := Option.some.inj h
    have eg : ∀ args w, (callFunc 127 args).run Try.prog w = .ok (.enter 127 args) w := enters_ Try.func127 (by kernel_rfl) rfl
    have hb0 : Below w.heap.size w (w.alloc (.cells #[.slice A0 l0.length c0] 44)) := below_alloc (Below.refl _ _) _
    have HB := Lib.hid hb0
    by_cases h12 : l0.length ≤ 12
    · have e0 : (l0.all fun row => riseB row 0 ((l0.length : Int) - 1)) = !(l0.any fun row => !riseB row 0 ((l0.length : Int) - 1)) := by
        rw [List.all_eq_not_any_not]
      rw [e0, decide_eq_true h12, Bool.true_and]
      have HC := Lib.hid (ContainsFunc_rows _ _ eg A0 c0 l0 _ _ (h_GoodLinks1 w.heap.size A0 c0 l0 (w.alloc (.cells #[.slice A0 l0.length c0] 44)) (by simp) (by omega) (by simp) hs) (Kd.C_below hr0 hb0))
      have hle : (l0.length : Int) ≤ 12 := by omega
      clear hr0 hb0 e0 h
      generalize (l0.any fun row => !riseB row 0 ((l0.length : Int) - 1)) = q at HC ⊢
      go_enter Try.func113, Try.ntmps113
      go_wp2_with (go_at_call 69; refine HC.out.mono ?_; rintro e w' ⟨rfl, hb⟩)
      go_ret
      exact ⟨by first | rfl | simp, below_then HB.out HB.out.size hb⟩
    · have hle : ¬ (l0.length : Int) ≤ 12 := by omega
      rw [decide_eq_false h12, Bool.false_and]
      clear hr0 hb0 h
      go_enter Try.func113, Try.ntmps113
      go_wp2
      go_ret
      exact ⟨by first | rfl | simp, HB.out⟩
  · rw [if_neg hs] at h
    cases h

/-! ### slices_IndexFunc_int_int_101: function 101, by hand -/
set_option maxHeartbeats 2000000 in
/-- slices.IndexFunc at []int. -/
theorem IndexFunc_int (g : Nat) (lb : Array Value) (eg : ∀ args w, (callFunc g args).run Try.prog w = .ok (.enter g args) w) (A : Option Addr) (c : Nat) (xs : List Int) (p : Int → Bool) (w : World)
    (hp : Pred1 (Kd.int .i64) g lb xs p w) (hr : Kd.C (Kd.int .i64) w A xs.length xs) :
    Calls Try.prog 101 #[.slice A xs.length c, .func (.func g) #[] lb] w fun e w' => e = .returned (.int .i64 (idxF p xs)) ∧ Below w.heap.size w w' := by
  have hm : xs.length ≤ 9223372036854775807 := hr.2.1
  have HR := Aside0.mk hr
  have HP := Aside0.mk hp
  clear hr hp
  go_enter Try.func101, Try.ntmps101
  go_wp2
  go_loopg [5, 8] xs.length (fun gg _ s8 wr => ∃ kk : Nat, kk ≤ xs.length ∧ xs.length - kk ≤ gg ∧ s8 = .int .i64 kk ∧ Aside0 (Below w.heap.size w wr) ∧ Aside0 (∀ j, j < kk → p (xs.getD j 0) = false))
  case atStart => exact ⟨0, Nat.zero_le _, by omega, rfl, ⟨Below.refl _ w⟩, ⟨fun j hj => absurd hj (Nat.not_lt_zero _)⟩⟩
  case round =>
    obtain ⟨kk, hkk, hg, rfl, BW, AB⟩ := hrel
    by_cases hlt : kk < xs.length
    · have hltz : (kk : Int) < (xs.length : Int) := by omega
      obtain ⟨ad, e0, hc0⟩ := Kd.at_int HR.out (kk : Int) (by omega) hltz
      cases e0
      have hc1 : wr.cell? (ad.add kk) = some (.int .i64 (xs.getD kk 0)) := by
        have := pw_cell_below BW.out hc0
        simpa [rd] using this
      clear hc0
      have hcall := HP.out wr (xs.getD kk 0) (.int .i64 (xs.getD kk 0)) BW.out (mem_getD xs 0 kk hlt) rfl
      generalize hy : xs.getD kk 0 = y at hc1 hcall
      have B := Aside0.mk hy
      clear hy
      cases hq : p y with
      | true =>
        rw [hq] at hcall
        have HQ := Aside0.mk hq
        clear hq
        go_wp2_with (go_at_fn g; refine hcall.mono ?_; rintro e w' ⟨rfl, hb'⟩)
        go_ret
        refine ⟨?_, below_then BW.out BW.out.size hb'⟩
        rw [idxF_hit p xs 0 kk hlt (by rw [B.out]; exact HQ.out) AB.out]
        rfl
      | false =>
        rw [hq] at hcall
        have HQ := Aside0.mk hq
        clear hq
        go_wp2_with (go_at_fn g; refine hcall.mono ?_; rintro e w' ⟨rfl, hb'⟩)
        go_roundg (xs.length - (kk + 1))
        case measure => omega
        case rel =>
          refine ⟨kk + 1, by omega, by omega, by go_num, ⟨below_then BW.out BW.out.size hb'⟩, ⟨fun j hj => ?_⟩⟩
          by_cases e : j = kk
          · subst e
            rw [B.out]
            exact HQ.out
          · exact AB.out j (by omega)
    · have hltz : ¬ (kk : Int) < (xs.length : Int) := by omega
      have : kk = xs.length := by omega
      subst this
      go_wp2
      go_ret
      refine ⟨?_, BW.out⟩
      rw [idxF_miss p xs 0 AB.out]
      rfl

/-! ### slices_DeleteFunc_int_int: function 128, by hand -/
theorem h_filter_none (p : Int → Bool) (xs : List Int) (h : ∀ j, j < xs.length → p (xs.getD j 0) = false) : xs.filter (fun x => !p x) = xs := by
  rw [List.filter_eq_self]
  intro x hx
  obtain ⟨j, hj, rfl⟩ := List.mem_iff_getElem.1 hx
  have := h j hj
  simpa [List.getD, List.getElem?_eq_getElem hj] using this
theorem idxF_spec (p : Int → Bool) (xs : List Int) : (idxF p xs = -1 ∧ ∀ j, j < xs.length → p (xs.getD j 0) = false) ∨ ∃ k, k < xs.length ∧ idxF p xs = (k : Int) ∧ p (xs.getD k 0) = true ∧ ∀ j, j < k → p (xs.getD j 0) = false := by
  unfold idxF
  cases h : xs.findIdx? p with
  | none =>
    left
    rw [List.findIdx?_eq_none_iff] at h
    refine ⟨rfl, fun j hj => h _ ?_⟩
    rw [show xs.getD j 0 = xs[j] from by simp [List.getD, List.getElem?_eq_getElem hj]]
    exact List.getElem_mem hj
  | some i =>
    right
    rw [List.findIdx?_eq_some_iff_getElem] at h
    obtain ⟨hi, hp, hn⟩ := h
    refine ⟨i, hi, rfl, by simpa [List.getD, List.getElem?_eq_getElem hi] using hp, fun j hj => ?_⟩
    have := hn j hj
    simpa [List.getD, List.getElem?_eq_getElem (show j < xs.length by omega)] using this
/-- What the row holds after some rounds: what is kept of the first j, up to i; from j on as it was. -/
structure DelInv (p : Int → Bool) (xs : List Int) (i j : Nat) (cur : List Int) : Prop where
  lt : i < j
  le : j ≤ xs.length
  len : cur.length = xs.length
  low : cur.take i = (xs.take j).filter fun x => !p x
  high : cur.drop j = xs.drop j
theorem DelInv.start {p : Int → Bool} {xs : List Int} {k : Nat} (hk : k < xs.length) (hp : p (xs.getD k 0) = true) (hn : ∀ j, j < k → p (xs.getD j 0) = false) : DelInv p xs k (k + 1) xs := by
  refine ⟨by omega, by omega, rfl, ?_, rfl⟩
  rw [List.take_succ_eq_append_getElem hk, List.filter_append]
  have h1 : (xs.take k).filter (fun x => !p x) = xs.take k := by
    refine h_filter_none p _ fun j hj => ?_
    have hj' : j < k := by simp at hj; omega
    have := hn j hj'
    rw [show (xs.take k).getD j 0 = xs.getD j 0 from by simp [List.getD, List.getElem?_take, hj']]
    exact this
  have h2 : p xs[k] = true := by simpa [List.getD, List.getElem?_eq_getElem hk] using hp
  rw [h1]
  simp [h2]
theorem DelInv.at_ {p : Int → Bool} {xs cur : List Int} {i j : Nat} (h : DelInv p xs i j cur) (hj : j < xs.length) : cur.getD j 0 = xs.getD j 0 := by
  have h1 := congrArg (fun l : List Int => l.head?) h.high
  simp only [List.head?_drop] at h1
  simp only [List.getD]
  rw [h1]
theorem DelInv.keep {p : Int → Bool} {xs cur : List Int} {i j : Nat} (h : DelInv p xs i j cur) (hj : j < xs.length) (hp : p (xs.getD j 0) = false) : DelInv p xs (i + 1) (j + 1) (cur.set i (xs.getD j 0)) := by
  have hi := h.lt
  have hlen := h.len
  refine ⟨by omega, by omega, by simpa using h.len, ?_, ?_⟩
  · rw [List.take_succ_eq_append_getElem (by rw [List.length_set]; omega), List.take_set_of_le (Nat.le_refl i), h.low, List.take_succ_eq_append_getElem hj, List.filter_append]
    have h2 : p xs[j] = false := by simpa [List.getD, List.getElem?_eq_getElem hj] using hp
    simp [h2, List.getD, List.getElem?_eq_getElem hj]
  · rw [List.drop_set_of_lt (by omega)]
    have := congrArg (List.drop 1) h.high
    rwa [List.drop_drop, List.drop_drop] at this
theorem DelInv.skip {p : Int → Bool} {xs cur : List Int} {i j : Nat} (h : DelInv p xs i j cur) (hj : j < xs.length) (hp : p (xs.getD j 0) = true) : DelInv p xs i (j + 1) cur := by
  have hi := h.lt
  refine ⟨by omega, by omega, h.len, ?_, ?_⟩
  · rw [h.low, List.take_succ_eq_append_getElem hj, List.filter_append]
    have h2 : p xs[j] = true := by simpa [List.getD, List.getElem?_eq_getElem hj] using hp
    simp [h2]
  · have := congrArg (List.drop 1) h.high
    rwa [List.drop_drop, List.drop_drop] at this
/-- A predicate that answers whatever is done to the blocks in S; it may lay blocks of its own. -/
def PredS (g : Nat) (lb : Array Value) (xs : List Int) (p : Int → Bool) (w : World) (S : Nat → Prop) : Prop :=
  ∀ (W : World) (x : Int), Kept w W S → x ∈ xs → Calls Try.prog g (#[.int .i64 x] ++ lb) W fun e w' => e = .returned (.bool (p x)) ∧ Below W.heap.size W w'
set_option maxHeartbeats 4000000 in
set_option maxRecDepth 100000 in
/-- slices.DeleteFunc of a row of the call's own. -/
theorem DeleteFunc_int (g : Nat) (lb : Array Value) (eg : ∀ args w, (callFunc g args).run Try.prog w = .ok (.enter g args) w) (P0_ : Nat → Prop) (v : Value) (xs : List Int) (p : Int → Bool) (w0 w : World) (hB : Below w0.heap.size w0 w)
    (ho : Kd.R (Kd.int .i64) 3 w w0.heap.size P0_ v xs) (hp : PredS g lb xs p w P0_) :
    Calls Try.prog 128 #[v, .func (.func g) #[] lb] w fun e w' => ∃ v0_ : Value, e = .returned v0_ ∧ Kd.R (Kd.int .i64) 3 w' w0.heap.size (fun k_ => P0_ k_ ∨ w.heap.size ≤ k_) v0_ (xs.filter fun x => !p x) ∧ Below w0.heap.size w0 w' ∧ Kept w w' P0_ := by
  have ho1 : Kd.R (Kd.int .i64) 3 w w0.heap.size (fun k_ => (P0_ k_ ∨ w.heap.size ≤ k_)) v xs := Kd.R_mono ho (fun k_ hk => .inl hk)
  obtain ⟨A, c, rfl, hlc, hC⟩ := Kd.R_reads ho1
  have hIF := Lib.hid (IndexFunc_int g lb eg A c xs p w (fun W x v hb hx hK => by
    obtain rfl : v = .int .i64 x := by
      have : [v] = [Value.int .i64 x] := hK
      simpa using this
    exact hp W x (Kept.of_below hb _) hx) hC)
  have hm : xs.length ≤ 9223372036854775807 := hC.2.1
  rcases idxF_spec p xs with ⟨e1, hall⟩ | ⟨k0, hk0, e1, ht, hall⟩
  · rw [e1] at hIF
    rw [h_filter_none p xs hall]
    have HO := Aside0.mk ho1
    have HB := Aside0.mk hB
    clear ho ho1 hp hall hC hB e1
    go_enter Try.func128, Try.ntmps128
    go_wp2_with (go_at_call 101; refine hIF.out.mono ?_; rintro e w' ⟨rfl, hb⟩)
    go_ret
    exact ⟨_, rfl, Kd.R_below HO.out hb, below_step HB.out hb, Kept.of_below hb _⟩
  · rw [e1] at hIF
    have HP := Aside0.mk hp
    have HX := Aside0.mk hall
    have HT := Aside0.mk ht
    obtain ⟨gb, cb, eo, hg0, hgl, cells, hcells⟩ := Kd.R_form ho1 (by omega)
    injection eo with eA _ ec
    subst eA
    have HG0 := Aside0.mk hg0
    have HO := Aside0.mk ho1
    have HB := Aside0.mk hB
    have HS := Aside0.mk (show P0_ gb ∨ w.heap.size ≤ gb from .inl (ho.1 gb rfl))
    have hne1 : ((k0 : Int) == -1) = false := beq_eq_false_iff_ne.2 (by omega)
    clear ho ho1 hp hall hC hB e1 ht hg0 hgl hcells ec
    go_enter Try.func128, Try.ntmps128
    go_wp2_with (go_at_call 101; refine hIF.out.mono ?_; rintro e w' ⟨rfl, hb⟩)
    rename_i w1
    have HB1 := Aside0.mk hb
    clear hb
    go_loopg [5, 6, 7] xs.length (fun gg s5 s6 _ wr => ∃ (i j : Nat) (cur : List Int), s5 = .int .i64 i ∧ s6 = .int .i64 j ∧ xs.length - j ≤ gg ∧ Aside0 (DelInv p xs i j cur) ∧ Aside0 (Kd.R (Kd.int .i64) 3 wr w0.heap.size (fun k_ => (P0_ k_ ∨ w.heap.size ≤ k_)) (.slice (some ⟨gb, 0, none⟩) xs.length c) cur) ∧ Aside0 (Below w0.heap.size w0 wr) ∧ Aside0 (Kept w wr P0_))
    case atStart => exact ⟨k0, k0 + 1, xs, rfl, by go_num, by omega, ⟨DelInv.start hk0 HT.out HX.out⟩, ⟨Kd.R_below HO.out HB1.out⟩, ⟨below_step HB.out HB1.out⟩, ⟨Kept.of_below HB1.out _⟩⟩
    case round =>
      clear HO HB
      obtain ⟨i, j, cur, rfl, rfl, hgg, HI, HO, HB, HK⟩ := hrel
      have hij := HI.out.lt
      have hjl := HI.out.le
      have hcl := HI.out.len
      by_cases hlt : j < xs.length
      · have hltz : (j : Int) < (xs.length : Int) := by omega
        have cj : wr.cell? ⟨gb, j, none⟩ = some (.int .i64 (xs.getD j 0)) := by
          have h1 := (Kd.R_celln 0 HO.out (j : Int) (by omega) (by omega)).1
          rw [Int.toNat_natCast] at h1
          rw [h1, ← HI.out.at_ hlt]
          simp [rdOf]
        have hcall := HP.out wr (xs.getD j 0) HK.out (mem_getD xs 0 j hlt)
        generalize hy : xs.getD j 0 = y at cj hcall
        have HY := Aside0.mk hy
        clear hy
        have hit : (i : Int) < (xs.length : Int) := by omega
        cases hq : p y with
        | true =>
          rw [hq] at hcall
          have HQ := Aside0.mk hq
          clear hq
          go_wp2_with (go_at_fn g; refine hcall.mono ?_; rintro e w2 ⟨rfl, hb2⟩)
          go_roundg (xs.length - (j + 1))
          case measure => omega
          case rel => exact ⟨i, j + 1, cur, rfl, by go_num, by omega, ⟨HI.out.skip hlt (by rw [HY.out]; exact HQ.out)⟩, ⟨Kd.R_below HO.out hb2⟩, ⟨below_step HB.out hb2⟩, ⟨Kept.below HK.out hb2⟩⟩
        | false =>
          rw [hq] at hcall
          have HQ := Aside0.mk hq
          clear hq
          go_wp2_with (go_at_fn g; refine hcall.mono ?_; rintro e w2 ⟨rfl, hb2⟩; have HO2 := Aside0.mk (Kd.R_below HO.out hb2); have HB2 := Aside0.mk hb2; obtain ⟨ci, fi⟩ := Kd.R_celln 0 HO2.out (i : Int) (by omega) hit; rw [Int.toNat_natCast] at ci fi; clear hb2)
          go_roundg (xs.length - (j + 1))
          case measure => omega
          case rel =>
            refine ⟨i + 1, j + 1, cur.set i y, by go_num, by go_num, by omega, ⟨by have := HI.out.keep hlt (by rw [HY.out]; exact HQ.out); rwa [HY.out] at this⟩, ⟨?_⟩, ⟨(below_step HB.out HB2.out).setCell (p := ⟨gb, i, none⟩) HG0.out _⟩, ⟨(Kept.below HK.out HB2.out).setCell (p := ⟨gb, i, none⟩) HS.out _⟩⟩
            have := Kd.R_putn HO2.out (i : Int) y
            rwa [Int.toNat_natCast] at this
      · obtain rfl : j = xs.length := by omega
        have hltz : ¬ (xs.length : Int) < (xs.length : Int) := by omega
        have hlow := HI.out.low
        rw [List.take_length] at hlow
        have hil : i < xs.length := hij
        have hic : i ≤ c := by omega
        have hicz : (i : Int) ≤ (xs.length : Int) := by omega
        have hcl2 : ∀ ty, (Builtin.clear_ #[37] ty #[.slice (some ⟨gb, i, none⟩) (xs.length - i) (c - i)]).run Try.prog wr = .ok (.tuple #[]) (wr.setCells gb i (List.replicate (xs.length - i) (.int .i64 0))) :=
          fun ty => Lib.run_clear_slice wr _ _ ty _ Try.underlying37 Try.zeroValue3 rfl rfl gb i _ _ (by omega) (fun t ht => by
            have h1 := (Kd.R_celln 0 HO.out ((i + t : Nat) : Int) (by omega) (by omega)).1
            rw [Int.toNat_natCast] at h1
            rw [h1]
            rfl) (fun t ht => by
            have h1 := (Kd.R_celln 0 HO.out ((i + t : Nat) : Int) (by omega) (by omega)).2
            rw [Int.toNat_natCast] at h1
            exact h1)
        have HLOW := Aside0.mk hlow
        clear hlow
        go_wp2
        go_ret
        have hR := h_R_sets (List.replicate (xs.length - i) (0 : Int)) i wr cur HO.out (by simp; omega)
        rw [List.map_replicate] at hR
        have hT := Kd.R_take hR (m := i) (by simp; omega)
        have e3 : (cur.take i ++ List.replicate (xs.length - i) (0 : Int) ++ cur.drop (i + (List.replicate (xs.length - i) (0 : Int)).length)).take i = xs.filter fun x => !p x := by
          rw [List.append_assoc, List.take_append_of_le_length (by simp; omega), List.take_take, Nat.min_self, HLOW.out]
        rw [e3] at hT
        have hlen3 : (xs.filter fun x => !p x).length = i := by rw [← HLOW.out, List.length_take]; omega
        exact ⟨_, rfl, hT, h_below_sets HB.out HG0.out _ _, h_kept_sets HK.out HS.out _ _⟩

end Go.Proofs.Ytbaojaadmooogaa.PFnExactCanSplit
