-- Written for this claim by the session's own program (drive.py), over the kit's print, with contracts typed by hand.
import Derived.Test.YtmhmemiombcmnaaPFnExactWaitsOnx0
import Derived.Test.YtmhmemiombcmnaaPFnExactWaitsOnx2
import Derived.Test.YtmhmemiombcmnaaPFnExactWaitsOnx3
import Derived.Test.YtmhmemiombcmnaaPFnExactWaitsOnx4
namespace Go.Proofs.Ytmhmemiombcmnaa.PFnExactWaitsOn
open Go.RowKit Go.Proofs.YtmhmemiombcmnaaW.PrintWords Go.Proofs.YtmhmemiombcmnaaW.PrintLast Go.Proofs.YtmhmemiombcmnaaW.PrintMore
attribute [local go_sem] max2_int min2_int max_two min_two max_three min_three max_four min_four   -- for this text's walks alone
set_option linter.unusedVariables false
set_option linter.unusedSimpArgs false

/-! ### impl_areKnown: function 99 -/
def impl_areKnown.f (k : Nat) (l0 : List (List Int)) (l1 : List Int) : Option (Bool) := (impl_GoodLinks.f l0).bind fun t221 => (if t221 = true then ((impl_isRising.f k l1 0 (wrap64 ((l0.length : Int) - 1))).bind fun t222 => (some t222)) else (some false))
theorem impl_areKnown.mono : ∀ a0 a1 k, LeO (impl_areKnown.f k a0 a1) (impl_areKnown.f (k + 1) a0 a1) := by
  intro a0 a1 k
  unfold impl_areKnown.f
  repeat' first
      | (with_reducible exact impl_isRising.mono _ _ _ _)
      | (with_reducible exact LeO.refl _)
      | (with_reducible exact LeO.none _)
      | (with_reducible refine LeO.ite ?_ ?_)
      | (with_reducible refine LeO.bind ?_ (fun _ => ?_))
      | exact impl_isRising.mono _ _ _ _
      | exact LeO.none _
      | refine LeO.ite ?_ ?_
      | refine LeO.bind ?_ (fun _ => ?_)
set_option maxHeartbeats 8000000 in
set_option maxRecDepth 100000 in
theorem impl_areKnown.calls (k : Nat) (A0 : Option Addr) (c0 : Nat) (l0 : List (List Int)) (A1 : Option Addr) (c1 : Nat) (l1 : List Int) (r : Bool) (w : World) (hr0 : Kd.C (Kd.slice 3 (Kd.int .i64)) w A0 l0.length l0) (hc0 : l0.length ≤ c0) (hr1 : Kd.C (Kd.int .i64) w A1 l1.length l1) (hc1 : l1.length ≤ c1) (h : impl_areKnown.f k l0 l1 = some r) :
    Calls Try.prog 99 #[.slice A0 l0.length c0, .slice A1 l1.length c1] w fun e w' => e = .returned (.bool r) ∧ Below w.heap.size w w' := by
  have HR0 := Aside0.mk hr0
  have HC0 := Aside0.mk hc0
  clear hr0 hc0
  have HR1 := Aside0.mk hr1
  have HC1 := Aside0.mk hc1
  clear hr1 hc1
  have HB := Aside0.mk (Below.refl w.heap.size w)
  have H : ((impl_GoodLinks.f l0).bind fun t221 => (if t221 = true then ((impl_isRising.f k l1 0 (wrap64 ((l0.length : Int) - 1))).bind fun t222 => (some t222)) else (some false))) = some r := h
  clear h
  replace H := Option.bind_eq_some_iff.mp H
  obtain ⟨t221, A30, H⟩ := H
  replace H : (if t221 = true then ((impl_isRising.f k l1 0 (wrap64 ((l0.length : Int) - 1))).bind fun t222 => (some t222)) else (some false)) = some r := H
  have A3 := Aside0.mk A30
  clear A30
  by_cases c4 : t221 = true
  · subst c4
    have H1 : ((impl_isRising.f k l1 0 (wrap64 ((l0.length : Int) - 1))).bind fun t222 => (some t222)) = some r := by rw [if_pos rfl] at H; exact H
    clear H
    have H := H1
    clear H1
    replace H := Option.bind_eq_some_iff.mp H
    obtain ⟨t222, A50, H⟩ := H
    replace H : (some t222) = some r := H
    have A5 := Aside0.mk A50
    clear A50
    obtain rfl := Option.some.inj H
    go_enter Try.func99, Try.ntmps99
    go_wp2_with (first | ((with_reducible refine gate_callee (f := 89) rfl ?_); refine goesL_ (some 6) rfl rfl Try.func89 (by kernel_rfl) rfl #[.slice A0 l0.length c0] rfl (by (try simp only [List.map_toArray, List.map_cons, List.map_nil]); first | done | rfl | (simp only [List.length_drop, List.length_take]; rfl)) ?_; (with_reducible refine (impl_GoodLinks.calls _ _ l0 true _ ?side1 ?side2 A3.out).mono ?_); (case side1 => repeat (first | exact HR0.out | (with_reducible refine Kd.C_alloc ?_ _) | (with_reducible refine Kd.C_drewN ?_ _) | (with_reducible refine Kd.C_drew ?_))); (case side2 => exact HC0.out); rintro e w6 ⟨rfl, hb⟩; refine ⟨_, rfl, ?_⟩; have n0_ := Aside0.mk (below_step (by repeat (first | (with_reducible first | exact HB.out | apply below_alloc | apply pw_below_drewN | apply below_drew1) | exact HB.out)) hb); clear HB; have HB := n0_; clear n0_; (try clear hb); (try clear hb2); (try clear hk); (try clear hi)) | (go_at_call 150; (with_reducible refine (impl_isRising.calls k _ _ l1 0 (wrap64 ((l0.length : Int) - 1)) t222 _ ?side1 ?side2 A5.out).mono ?_); (case side1 => repeat (first | exact (Kd.C_below HR1.out HB.out) | (with_reducible refine Kd.C_alloc ?_ _) | (with_reducible refine Kd.C_drewN ?_ _) | (with_reducible refine Kd.C_drew ?_))); (case side2 => exact HC1.out); rintro e w' ⟨rfl, ⟨nd, rfl⟩⟩))
    go_ret
    exact ⟨by first | rfl | (simp [errW_none, errW_some] <;> rfl) | (simp [*, errW_none, errW_some] <;> rfl), by repeat (first | (with_reducible first | exact HB.out | apply below_alloc | apply pw_below_drewN | apply below_drew1) | exact HB.out)⟩
  · replace c4 := Bool.eq_false_iff.mpr c4
    subst c4
    have H1 : (some false) = some r := by rw [if_neg (show ¬ (false = true) by decide)] at H; exact H
    clear H
    have H := H1
    clear H1
    obtain rfl := Option.some.inj H
    go_enter Try.func99, Try.ntmps99
    go_wp2_with (first | ((with_reducible refine gate_callee (f := 89) rfl ?_); refine goesL_ (some 6) rfl rfl Try.func89 (by kernel_rfl) rfl #[.slice A0 l0.length c0] rfl (by (try simp only [List.map_toArray, List.map_cons, List.map_nil]); first | done | rfl | (simp only [List.length_drop, List.length_take]; rfl)) ?_; (with_reducible refine (impl_GoodLinks.calls _ _ l0 false _ ?side1 ?side2 A3.out).mono ?_); (case side1 => repeat (first | exact HR0.out | (with_reducible refine Kd.C_alloc ?_ _) | (with_reducible refine Kd.C_drewN ?_ _) | (with_reducible refine Kd.C_drew ?_))); (case side2 => exact HC0.out); rintro e w7 ⟨rfl, hb⟩; refine ⟨_, rfl, ?_⟩; have n0_ := Aside0.mk (below_step (by repeat (first | (with_reducible first | exact HB.out | apply below_alloc | apply pw_below_drewN | apply below_drew1) | exact HB.out)) hb); clear HB; have HB := n0_; clear n0_; (try clear hb); (try clear hb2); (try clear hk); (try clear hi)))
    go_ret
    exact ⟨by first | rfl | (simp [errW_none, errW_some] <;> rfl) | (simp [*, errW_none, errW_some] <;> rfl), by repeat (first | (with_reducible first | exact HB.out | apply below_alloc | apply pw_below_drewN | apply below_drew1) | exact HB.out)⟩

/-! ### slices_IndexFunc_int_int_168: function 168, by hand -/
set_option maxHeartbeats 2000000 in
/-- slices.IndexFunc at []int. -/
theorem IndexFunc_int (g : Nat) (lb : Array Value) (eg : ∀ args w, (callFunc g args).run Try.prog w = .ok (.enter g args) w) (A : Option Addr) (c : Nat) (xs : List Int) (p : Int → Bool) (w : World)
    (hp : Pred1 (Kd.int .i64) g lb xs p w) (hr : Kd.C (Kd.int .i64) w A xs.length xs) :
    Calls Try.prog 168 #[.slice A xs.length c, .func (.func g) #[] lb] w fun e w' => e = .returned (.int .i64 (idxF p xs)) ∧ Below w.heap.size w w' := by
  have hm : xs.length ≤ 9223372036854775807 := hr.2.1
  have HR := Aside0.mk hr
  have HP := Aside0.mk hp
  clear hr hp
  go_enter Try.func168, Try.ntmps168
  go_wp2
  go_loopg [5, 8] xs.length (fun gg _ s8 wr => ∃ kk : Nat, kk ≤ xs.length ∧ xs.length - kk ≤ gg ∧ s8 = .int .i64 kk ∧ Aside0 (Below w.heap.size w wr) ∧ Aside0 (∀ j, j < kk → p (xs.getD j 0) = false))
  case atStart => exact ⟨0, Nat.zero_le _, by omega, rfl, ⟨Below.refl _ w⟩, ⟨fun j hj => absurd hj (Nat.not_lt_zero _)⟩⟩
  case round =>
    obtain ⟨kk, hkk, hg, rfl, BW, AB⟩ := hrel
    by_cases hlt : kk < xs.length
    · have hltz : (kk : Int) < (xs.length : Int) := by omega
      obtain ⟨ad, e0, hc0⟩ := Kd.at_int HR.out (kk : Int) (by omega) hltz
      cases e0
      have hc1 : wr.cell? (ad.add kk) = some (.int .i64 (xs.getD kk 0)) := by
        have := pw_cell_below BW.out hc0
        simpa [rd] using this
      clear hc0
      have hcall := HP.out wr (xs.getD kk 0) (.int .i64 (xs.getD kk 0)) BW.out (mem_getD xs 0 kk hlt) rfl
      generalize hy : xs.getD kk 0 = y at hc1 hcall
      have B := Aside0.mk hy
      clear hy
      cases hq : p y with
      | true =>
        rw [hq] at hcall
        have HQ := Aside0.mk hq
        clear hq
        go_wp2_with (go_at_fn g; refine hcall.mono ?_; rintro e w' ⟨rfl, hb'⟩)
        go_ret
        refine ⟨?_, below_then BW.out BW.out.size hb'⟩
        rw [idxF_hit p xs 0 kk hlt (by rw [B.out]; exact HQ.out) AB.out]
        rfl
      | false =>
        rw [hq] at hcall
        have HQ := Aside0.mk hq
        clear hq
        go_wp2_with (go_at_fn g; refine hcall.mono ?_; rintro e w' ⟨rfl, hb'⟩)
        go_roundg (xs.length - (kk + 1))
        case measure => omega
        case rel =>
          refine ⟨kk + 1, by omega, by omega, by go_num, ⟨below_then BW.out BW.out.size hb'⟩, ⟨fun j hj => ?_⟩⟩
          by_cases e : j = kk
          · subst e
            rw [B.out]
            exact HQ.out
          · exact AB.out j (by omega)
    · have hltz : ¬ (kk : Int) < (xs.length : Int) := by omega
      have : kk = xs.length := by omega
      subst this
      go_wp2
      go_ret
      refine ⟨?_, BW.out⟩
      rw [idxF_miss p xs 0 AB.out]
      rfl

/-! ### slices_DeleteFunc_int_int: function 159, by hand -/
theorem h_filter_none (p : Int → Bool) (xs : List Int) (h : ∀ j, j < xs.length → p (xs.getD j 0) = false) : xs.filter (fun x => !p x) = xs := by
  rw [List.filter_eq_self]
  intro x hx
  obtain ⟨j, hj, rfl⟩ := List.mem_iff_getElem.1 hx
  have := h j hj
  simpa [List.getD, List.getElem?_eq_getElem hj] using this
theorem idxF_spec (p : Int → Bool) (xs : List Int) : (idxF p xs = -1 ∧ ∀ j, j < xs.length → p (xs.getD j 0) = false) ∨ ∃ k, k < xs.length ∧ idxF p xs = (k : Int) ∧ p (xs.getD k 0) = true ∧ ∀ j, j < k → p (xs.getD j 0) = false := by
  unfold idxF
  cases h : xs.findIdx? p with
  | none =>
    left
    rw [List.findIdx?_eq_none_iff] at h
    refine ⟨rfl, fun j hj => h _ ?_⟩
    rw [show xs.getD j 0 = xs[j] from by simp [List.getD, List.getElem?_eq_getElem hj]]
    exact List.getElem_mem hj
  | some i =>
    right
    rw [List.findIdx?_eq_some_iff_getElem] at h
    obtain ⟨hi, hp, hn⟩ := h
    refine ⟨i, hi, rfl, by simpa [List.getD, List.getElem?_eq_getElem hi] using hp, fun j hj => ?_⟩
    have := hn j hj
    simpa [List.getD, List.getElem?_eq_getElem (show j < xs.length by omega)] using this
/-- What the row holds after some rounds: what is kept of the first j, up to i; from j on as it was. -/
structure DelInv (p : Int → Bool) (xs : List Int) (i j : Nat) (cur : List Int) : Prop where
  lt : i < j
  le : j ≤ xs.length
  len : cur.length = xs.length
  low : cur.take i = (xs.take j).filter fun x => !p x
  high : cur.drop j = xs.drop j
theorem DelInv.start {p : Int → Bool} {xs : List Int} {k : Nat} (hk : k < xs.length) (hp : p (xs.getD k 0) = true) (hn : ∀ j, j < k → p (xs.getD j 0) = false) : DelInv p xs k (k + 1) xs := by
  refine ⟨by omega, by omega, rfl, ?_, rfl⟩
  rw [List.take_succ_eq_append_getElem hk, List.filter_append]
  have h1 : (xs.take k).filter (fun x => !p x) = xs.take k := by
    refine h_filter_none p _ fun j hj => ?_
    have hj' : j < k := by simp at hj; omega
    have := hn j hj'
    rw [show (xs.take k).getD j 0 = xs.getD j 0 from by simp [List.getD, List.getElem?_take, hj']]
    exact this
  have h2 : p xs[k] = true := by simpa [List.getD, List.getElem?_eq_getElem hk] using hp
  rw [h1]
  simp [h2]
theorem DelInv.at_ {p : Int → Bool} {xs cur : List Int} {i j : Nat} (h : DelInv p xs i j cur) (hj : j < xs.length) : cur.getD j 0 = xs.getD j 0 := by
  have h1 := congrArg (fun l : List Int => l.head?) h.high
  simp only [List.head?_drop] at h1
  simp only [List.getD]
  rw [h1]
theorem DelInv.keep {p : Int → Bool} {xs cur : List Int} {i j : Nat} (h : DelInv p xs i j cur) (hj : j < xs.length) (hp : p (xs.getD j 0) = false) : DelInv p xs (i + 1) (j + 1) (cur.set i (xs.getD j 0)) := by
  have hi := h.lt
  have hlen := h.len
  refine ⟨by omega, by omega, by simpa using h.len, ?_, ?_⟩
  · rw [List.take_succ_eq_append_getElem (by rw [List.length_set]; omega), List.take_set_of_le (Nat.le_refl i), h.low, List.take_succ_eq_append_getElem hj, List.filter_append]
    have h2 : p xs[j] = false := by simpa [List.getD, List.getElem?_eq_getElem hj] using hp
    simp [h2, List.getD, List.getElem?_eq_getElem hj]
  · rw [List.drop_set_of_lt (by omega)]
    have := congrArg (List.drop 1) h.high
    rwa [List.drop_drop, List.drop_drop] at this
theorem DelInv.skip {p : Int → Bool} {xs cur : List Int} {i j : Nat} (h : DelInv p xs i j cur) (hj : j < xs.length) (hp : p (xs.getD j 0) = true) : DelInv p xs i (j + 1) cur := by
  have hi := h.lt
  refine ⟨by omega, by omega, h.len, ?_, ?_⟩
  · rw [h.low, List.take_succ_eq_append_getElem hj, List.filter_append]
    have h2 : p xs[j] = true := by simpa [List.getD, List.getElem?_eq_getElem hj] using hp
    simp [h2]
  · have := congrArg (List.drop 1) h.high
    rwa [List.drop_drop, List.drop_drop] at this
/-- A predicate that answers whatever is done to the blocks in S; it may lay blocks of its own. -/
def PredS (g : Nat) (lb : Array Value) (xs : List Int) (p : Int → Bool) (w : World) (S : Nat → Prop) : Prop :=
  ∀ (W : World) (x : Int), Kept w W S → x ∈ xs → Calls Try.prog g (#[.int .i64 x] ++ lb) W fun e w' => e = .returned (.bool (p x)) ∧ Below W.heap.size W w'
set_option maxHeartbeats 4000000 in
set_option maxRecDepth 100000 in
/-- slices.DeleteFunc of a row of the call's own. -/
theorem DeleteFunc_int (g : Nat) (lb : Array Value) (eg : ∀ args w, (callFunc g args).run Try.prog w = .ok (.enter g args) w) (P0_ : Nat → Prop) (v : Value) (xs : List Int) (p : Int → Bool) (w0 w : World) (hB : Below w0.heap.size w0 w)
    (ho : Kd.R (Kd.int .i64) 3 w w0.heap.size P0_ v xs) (hp : PredS g lb xs p w P0_) :
    Calls Try.prog 159 #[v, .func (.func g) #[] lb] w fun e w' => ∃ v0_ : Value, e = .returned v0_ ∧ Kd.R (Kd.int .i64) 3 w' w0.heap.size (fun k_ => P0_ k_ ∨ w.heap.size ≤ k_) v0_ (xs.filter fun x => !p x) ∧ Below w0.heap.size w0 w' ∧ Kept w w' P0_ := by
  have ho1 : Kd.R (Kd.int .i64) 3 w w0.heap.size (fun k_ => (P0_ k_ ∨ w.heap.size ≤ k_)) v xs := Kd.R_mono ho (fun k_ hk => .inl hk)
  obtain ⟨A, c, rfl, hlc, hC⟩ := Kd.R_reads ho1
  have hIF := Lib.hid (IndexFunc_int g lb eg A c xs p w (fun W x v hb hx hK => by
    obtain rfl : v = .int .i64 x := by
      have : [v] = [Value.int .i64 x] := hK
      simpa using this
    exact hp W x (Kept.of_below hb _) hx) hC)
  have hm : xs.length ≤ 9223372036854775807 := hC.2.1
  rcases idxF_spec p xs with ⟨e1, hall⟩ | ⟨k0, hk0, e1, ht, hall⟩
  · rw [e1] at hIF
    rw [h_filter_none p xs hall]
    have HO := Aside0.mk ho1
    have HB := Aside0.mk hB
    clear ho ho1 hp hall hC hB e1
    go_enter Try.func159, Try.ntmps159
    go_wp2_with (go_at_call 168; refine hIF.out.mono ?_; rintro e w' ⟨rfl, hb⟩)
    go_ret
    exact ⟨_, rfl, Kd.R_below HO.out hb, below_step HB.out hb, Kept.of_below hb _⟩
  · rw [e1] at hIF
    have HP := Aside0.mk hp
    have HX := Aside0.mk hall
    have HT := Aside0.mk ht
    obtain ⟨gb, cb, eo, hg0, hgl, cells, hcells⟩ := Kd.R_form ho1 (by omega)
    injection eo with eA _ ec
    subst eA
    have HG0 := Aside0.mk hg0
    have HO := Aside0.mk ho1
    have HB := Aside0.mk hB
    have HS := Aside0.mk (show P0_ gb ∨ w.heap.size ≤ gb from .inl (ho.1 gb rfl))
    have hne1 : ((k0 : Int) == -1) = false := beq_eq_false_iff_ne.2 (by omega)
    clear ho ho1 hp hall hC hB e1 ht hg0 hgl hcells ec
    go_enter Try.func159, Try.ntmps159
    go_wp2_with (go_at_call 168; refine hIF.out.mono ?_; rintro e w' ⟨rfl, hb⟩)
    rename_i w1
    have HB1 := Aside0.mk hb
    clear hb
    go_loopg [5, 6, 7] xs.length (fun gg s5 s6 _ wr => ∃ (i j : Nat) (cur : List Int), s5 = .int .i64 i ∧ s6 = .int .i64 j ∧ xs.length - j ≤ gg ∧ Aside0 (DelInv p xs i j cur) ∧ Aside0 (Kd.R (Kd.int .i64) 3 wr w0.heap.size (fun k_ => (P0_ k_ ∨ w.heap.size ≤ k_)) (.slice (some ⟨gb, 0, none⟩) xs.length c) cur) ∧ Aside0 (Below w0.heap.size w0 wr) ∧ Aside0 (Kept w wr P0_))
    case atStart => exact ⟨k0, k0 + 1, xs, rfl, by go_num, by omega, ⟨DelInv.start hk0 HT.out HX.out⟩, ⟨Kd.R_below HO.out HB1.out⟩, ⟨below_step HB.out HB1.out⟩, ⟨Kept.of_below HB1.out _⟩⟩
    case round =>
      clear HO HB
      obtain ⟨i, j, cur, rfl, rfl, hgg, HI, HO, HB, HK⟩ := hrel
      have hij := HI.out.lt
      have hjl := HI.out.le
      have hcl := HI.out.len
      by_cases hlt : j < xs.length
      · have hltz : (j : Int) < (xs.length : Int) := by omega
        have cj : wr.cell? ⟨gb, j, none⟩ = some (.int .i64 (xs.getD j 0)) := by
          have h1 := (Kd.R_celln 0 HO.out (j : Int) (by omega) (by omega)).1
          rw [Int.toNat_natCast] at h1
          rw [h1, ← HI.out.at_ hlt]
          simp [rdOf]
        have hcall := HP.out wr (xs.getD j 0) HK.out (mem_getD xs 0 j hlt)
        generalize hy : xs.getD j 0 = y at cj hcall
        have HY := Aside0.mk hy
        clear hy
        have hit : (i : Int) < (xs.length : Int) := by omega
        cases hq : p y with
        | true =>
          rw [hq] at hcall
          have HQ := Aside0.mk hq
          clear hq
          go_wp2_with (go_at_fn g; refine hcall.mono ?_; rintro e w2 ⟨rfl, hb2⟩)
          go_roundg (xs.length - (j + 1))
          case measure => omega
          case rel => exact ⟨i, j + 1, cur, rfl, by go_num, by omega, ⟨HI.out.skip hlt (by rw [HY.out]; exact HQ.out)⟩, ⟨Kd.R_below HO.out hb2⟩, ⟨below_step HB.out hb2⟩, ⟨Kept.below HK.out hb2⟩⟩
        | false =>
          rw [hq] at hcall
          have HQ := Aside0.mk hq
          clear hq
          go_wp2_with (go_at_fn g; refine hcall.mono ?_; rintro e w2 ⟨rfl, hb2⟩; have HO2 := Aside0.mk (Kd.R_below HO.out hb2); have HB2 := Aside0.mk hb2; obtain ⟨ci, fi⟩ := Kd.R_celln 0 HO2.out (i : Int) (by omega) hit; rw [Int.toNat_natCast] at ci fi; clear hb2)
          go_roundg (xs.length - (j + 1))
          case measure => omega
          case rel =>
            refine ⟨i + 1, j + 1, cur.set i y, by go_num, by go_num, by omega, ⟨by have := HI.out.keep hlt (by rw [HY.out]; exact HQ.out); rwa [HY.out] at this⟩, ⟨?_⟩, ⟨(below_step HB.out HB2.out).setCell (p := ⟨gb, i, none⟩) HG0.out _⟩, ⟨(Kept.below HK.out HB2.out).setCell (p := ⟨gb, i, none⟩) HS.out _⟩⟩
            have := Kd.R_putn HO2.out (i : Int) y
            rwa [Int.toNat_natCast] at this
      · obtain rfl : j = xs.length := by omega
        have hltz : ¬ (xs.length : Int) < (xs.length : Int) := by omega
        have hlow := HI.out.low
        rw [List.take_length] at hlow
        have hil : i < xs.length := hij
        have hic : i ≤ c := by omega
        have hicz : (i : Int) ≤ (xs.length : Int) := by omega
        have hcl2 : ∀ ty, (Builtin.clear_ #[24] ty #[.slice (some ⟨gb, i, none⟩) (xs.length - i) (c - i)]).run Try.prog wr = .ok (.tuple #[]) (wr.setCells gb i (List.replicate (xs.length - i) (.int .i64 0))) :=
          fun ty => Lib.run_clear_slice wr _ _ ty _ Try.underlying24 Try.zeroValue3 rfl rfl gb i _ _ (by omega) (fun t ht => by
            have h1 := (Kd.R_celln 0 HO.out ((i + t : Nat) : Int) (by omega) (by omega)).1
            rw [Int.toNat_natCast] at h1
            rw [h1]
            rfl) (fun t ht => by
            have h1 := (Kd.R_celln 0 HO.out ((i + t : Nat) : Int) (by omega) (by omega)).2
            rw [Int.toNat_natCast] at h1
            exact h1)
        have HLOW := Aside0.mk hlow
        clear hlow
        go_wp2
        go_ret
        have hR := h_R_sets (List.replicate (xs.length - i) (0 : Int)) i wr cur HO.out (by simp; omega)
        rw [List.map_replicate] at hR
        have hT := Kd.R_take hR (m := i) (by simp; omega)
        have e3 : (cur.take i ++ List.replicate (xs.length - i) (0 : Int) ++ cur.drop (i + (List.replicate (xs.length - i) (0 : Int)).length)).take i = xs.filter fun x => !p x := by
          rw [List.append_assoc, List.take_append_of_le_length (by simp; omega), List.take_take, Nat.min_self, HLOW.out]
        rw [e3] at hT
        have hlen3 : (xs.filter fun x => !p x).length = i := by rw [← HLOW.out, List.length_take]; omega
        exact ⟨_, rfl, hT, h_below_sets HB.out HG0.out _ _, h_kept_sets HK.out HS.out _ _⟩

/-! ### slices_Clone_int_int: function 161, by hand -/
def slices_Clone_int_int.f (l0 : List Int) : Option (List Int) := if l0.length * 8 ≤ 140737488355328 then some l0 else none
set_option maxHeartbeats 8000000 in
set_option maxRecDepth 100000 in
theorem slices_Clone_int_int.calls (A0 : Option Addr) (c0 : Nat) (l0 : List Int) (r : List Int) (w : World) (hr0 : Kd.C (Kd.int .i64) w A0 l0.length l0) (hc0 : l0.length ≤ c0) (h : slices_Clone_int_int.f l0 = some r) :
    Calls Try.prog 161 #[.slice A0 l0.length c0] w fun e w' => ∃ v0_ : Value, e = .returned (v0_) ∧ Kd.R (Kd.int .i64) 3 w' w.heap.size (fun _ => True) v0_ r ∧ Below w.heap.size w w' := by
  unfold slices_Clone_int_int.f at h
  by_cases hl : l0.length * 8 ≤ 140737488355328
  · rw [if_pos hl] at h
    obtain rfl := Option.some.inj h
    have key : ∀ (v' : Value) (w' : World), w'.ownsRow w.heap.size 3 1 v' l0.length (l0.map (Value.int .i64)) → Kd.R (Kd.int .i64) 3 w' w.heap.size (fun _ => True) v' l0 :=
      fun v' w' ho => Kd.R_of_own ho (fun _ _ => trivial)
    rcases Nat.eq_zero_or_pos l0.length with h0 | h0
    · obtain rfl : l0 = [] := List.eq_nil_of_length_eq_zero h0
      cases A0 with
      | none =>
        refine (Try.slices_Clone_int_nil 0 c0 w).mono ?_
        rintro e w' ⟨rfl, rfl⟩
        exact ⟨_, rfl, Kd.R_nil _ _ _ _ _, Below.refl _ _⟩
      | some a =>
        refine (Try.slices_Clone_int_zero a c0 w).mono ?_
        rintro e w' ⟨v', rfl, ho, _, hb⟩
        exact ⟨_, rfl, key v' w' ho, hb⟩
    · obtain ⟨b, off, rfl, hcells⟩ := h_ints_at hr0 h0
      refine (Try.slices_Clone_int b off l0.length c0 l0 w (Nat.le_refl _) hl hcells).mono ?_
      rintro e w' ⟨v', rfl, ho, _, hb⟩
      rw [List.take_length] at ho
      exact ⟨_, rfl, key v' w' ho, hb⟩
  · rw [if_neg hl] at h
    cases h

/-! ### impl_without_1: function 162, by hand -/
theorem h_index_l (l : List Int) (v : Int) (hl : l.length ≤ 9223372036854775807) : ∀ (d i : Nat), i + d = l.length → ∃ r : Int, slices_Index_int_int.l0 (d + 1) l v (l.length : Int) (i : Int) = some r ∧ decide (r ≥ 0) = (l.drop i).contains v
  | 0, i, h => by
    refine ⟨-1, by rw [slices_Index_int_int.l0, if_neg (by omega)], ?_⟩
    rw [List.drop_of_length_le (by omega)]
    rfl
  | d + 1, i, h => by
    have hd : l.drop i = l.getD i 0 :: l.drop (i + 1) := by
      rw [List.drop_eq_getElem_cons (show i < l.length by omega)]
      simp [List.getD, List.getElem?_eq_getElem (show i < l.length by omega)]
    have h1 : wrap64 ((i : Int) + 1) = ((i + 1 : Nat) : Int) := by rw [h_w64 (by omega) (by omega)]; omega
    by_cases e : v = l.getD i 0
    · refine ⟨i, by rw [slices_Index_int_int.l0, if_pos (by omega), if_pos (by omega), if_pos (by omega), h_rd, if_pos e], ?_⟩
      rw [hd, List.contains_cons, ← e]
      simp
    · obtain ⟨r, hr, hc⟩ := h_index_l l v hl d (i + 1) (by omega)
      refine ⟨r, by rw [slices_Index_int_int.l0, if_pos (by omega), if_pos (by omega), if_pos (by omega), h_rd, if_neg e, h1]; exact hr, ?_⟩
      rw [hd, List.contains_cons, hc]
      have : (v == l.getD i 0) = false := by simpa using e
      rw [this, Bool.false_or]
theorem h_contains (l : List Int) (v : Int) (hl : l.length ≤ 9223372036854775807) : slices_Contains_int_int.f (l.length + 1) l v = some (l.contains v) := by
  obtain ⟨r, hr, hc⟩ := h_index_l l v hl l.length 0 (by omega)
  unfold slices_Contains_int_int.f slices_Index_int_int.f
  rw [show slices_Index_int_int.l0 (l.length + 1) l v (l.length : Int) 0 = some r from hr, Option.bind_some, hc]
  rfl
/-- slices.Contains at []int, wherever the slice is read. -/
theorem h_contains_calls (A : Option Addr) (c : Nat) (l : List Int) (v : Int) (w : World) (hr : Kd.C (Kd.int .i64) w A l.length l) (hc : l.length ≤ c) :
    Calls Try.prog 96 #[.slice A l.length c, .int .i64 v] w fun e w' => e = .returned (.bool (l.contains v)) ∧ Drawn0 w w' :=
  slices_Contains_int_int.calls (l.length + 1) A c l v _ w hr hc (h_contains l v hr.2.1)
theorem h_without1 (B : Nat) (A : Option Addr) (c : Nat) (l : List Int) (w : World) (S : Nat → Prop) (hB : ¬ S B) (hcell : w.cell? ⟨B, 0, none⟩ = some (.slice A l.length c)) (hr : ∀ W, Kept w W S → Kd.C (Kd.int .i64) W A l.length l) (hc : l.length ≤ c) (xs : List Int) :
    PredS 162 #[.pointer (some ⟨B, 0, none⟩)] xs (fun n => l.contains n) w S := by
  intro W x hk _
  have hc0 : W.cell? ⟨B, 0, none⟩ = some (.slice A l.length c) := cell_kept hcell hk hB
  have HC := Lib.hid (h_contains_calls A c l x W (hr W hk) hc)
  clear hcell hk hr hB
  show Calls Try.prog 162 #[.int .i64 x, .pointer (some ⟨B, 0, none⟩)] W _
  go_enter Try.func162, Try.ntmps162
  go_wp2_with (go_at_call 96; refine HC.out.mono ?_; rintro e w' ⟨rfl, hd⟩)
  go_ret
  exact ⟨by first | rfl | simp, hd.below⟩

/-! ### impl_without: function 100, by hand -/
def impl_without.f (l0 : List Int) (l1 : List Int) : Option (List Int) := if l0.length * 8 ≤ 140737488355328 then some (l0.filter fun n => !l1.contains n) else none
set_option maxHeartbeats 8000000 in
set_option maxRecDepth 100000 in
theorem impl_without.calls (A0 : Option Addr) (c0 : Nat) (l0 : List Int) (A1 : Option Addr) (c1 : Nat) (l1 : List Int) (r : List Int) (w : World) (hr0 : Kd.C (Kd.int .i64) w A0 l0.length l0) (hc0 : l0.length ≤ c0) (hr1 : Kd.C (Kd.int .i64) w A1 l1.length l1) (hc1 : l1.length ≤ c1) (h : impl_without.f l0 l1 = some r) :
    Calls Try.prog 100 #[.slice A0 l0.length c0, .slice A1 l1.length c1] w fun e w' => ∃ v0_ : Value, e = .returned (v0_) ∧ Kd.R (Kd.int .i64) 3 w' w.heap.size (fun _ => True) v0_ r ∧ Below w.heap.size w w' := by
  unfold impl_without.f at h
  by_cases hl : l0.length * 8 ≤ 140737488355328
  · rw [if_pos hl] at h
    obtain rfl := Option.some.inj h
    have eg : ∀ args w, (callFunc 162 args).run Try.prog w = .ok (.enter 162 args) w := enters_ Try.func162 (by kernel_rfl) rfl
    have hb0 : Below w.heap.size w (w.alloc (.cells #[.slice A1 l1.length c1] 24)) := below_alloc (Below.refl _ _) _
    have HC := Lib.hid (slices_Clone_int_int.calls A0 c0 l0 l0 (w.alloc (.cells #[.slice A1 l1.length c1] 24)) (Kd.C_below hr0 hb0) hc0 (if_pos hl))
    have HD := Lib.hid (show ∀ (v : Value) (w1 : World), Kd.R (Kd.int .i64) 3 w1 (w.heap.size + 1) (fun _ => True) v l0 → Below (w.heap.size + 1) (w.alloc (.cells #[.slice A1 l1.length c1] 24)) w1 → Calls Try.prog 159 #[v, .func (.func 162) #[] #[.pointer (some ⟨w.heap.size, 0, none⟩)]] w1 fun e w' => ∃ v0_ : Value, e = .returned v0_ ∧ Kd.R (Kd.int .i64) 3 w' w.heap.size (fun _ => True) v0_ (l0.filter fun n => !l1.contains n) ∧ Below w.heap.size w w' from fun v w1 hR hb => by
      have hsz : (w.alloc (.cells #[.slice A1 l1.length c1] 24)).heap.size = w.heap.size + 1 := by simp
      have hb1 : Below w.heap.size w w1 := below_step hb0 (by rw [hsz]; exact hb)
      have hbase : ∀ k, (some k = v.ownBlock) → w.heap.size + 1 ≤ k := fun k hk => Kd.R_base hR k hk.symm
      have hP := h_without1 w.heap.size A1 c1 l1 w1 (fun k => some k = v.ownBlock) (fun hk => by have := hbase _ hk; omega) (by
        have := pw_cell_below (w := w.alloc (.cells #[.slice A1 l1.length c1] 24)) (w1 := w1) (by rw [hsz]; exact hb) (a := ⟨w.heap.size, 0, none⟩) (v := .slice A1 l1.length c1) (by simp)
        exact this) (Kd.C_kept_came (Kd.heap_int .i64) hr1 hb1 (fun k hk => by have := hbase k hk; omega)) hc1 l0
      refine (DeleteFunc_int 162 _ eg (fun k => some k = v.ownBlock) v l0 _ w w1 hb1 (Kd.R_lower (Kd.R_tight rfl hR) (by omega)) hP).mono ?_
      rintro e w' ⟨v0, rfl, hR', hB', _⟩
      exact ⟨v0, rfl, by simpa using Kd.R_mono (ok' := fun _ => True) hR' (fun _ _ => trivial), hB'⟩)
    clear hr0 hr1 hb0 h hl
    generalize (l0.filter fun n => !l1.contains n) = q at HD ⊢
    go_enter Try.func100, Try.ntmps100
    go_wp2_with (first | (go_at_call 161; refine HC.out.mono ?_; rintro e w1 ⟨v, rfl, hR, hb⟩; have HR := Aside0.mk hR; have HB := Aside0.mk hb; clear hR hb) | (go_at_call 159; refine (HD.out _ _ (by simpa using HR.out) (by simpa using HB.out)).mono ?_; rintro e w' ⟨v0, rfl, hR, hb⟩))
    exact bodyPost_ret (v := v0) (by simp [results, go_sem]) rfl ⟨v0, rfl, hR, hb⟩
  · rw [if_neg hl] at h
    cases h

/-! ### impl_WaitsOn: function 40 -/
def impl_WaitsOn.j0 : Nat → List (List Int) → List Int → Int → Bool → Option (List Int × Bool)
  | 0, _, _, _, _ => none
  | k + 1, x0, x1, x2, x19 => if x19 = true then (some (([] : List Int), false)) else ((impl_reach.f k x0 x2).bind fun t225 => ((impl_without.f t225 x1).bind fun t228 => (some (t228, true))))
def impl_WaitsOn.f (k : Nat) (l0 : List (List Int)) (l1 : List Int) (a2 : Int) : Option (List Int × Bool) := (impl_areKnown.f k l0 l1).bind fun t223 => (if t223 = true then ((impl_within.f a2 0 (wrap64 ((l0.length : Int) - 1))).bind fun t224 => (impl_WaitsOn.j0 k l0 l1 a2 (!t224))) else (impl_WaitsOn.j0 k l0 l1 a2 true))
theorem impl_WaitsOn.mono_l : ∀ k, (∀ y0 y1 y2 y3, LeO (impl_WaitsOn.j0 k y0 y1 y2 y3) (impl_WaitsOn.j0 (k + 1) y0 y1 y2 y3))
  | 0 => fun _ _ _ _ r h => by simp [impl_WaitsOn.j0] at h
  | k + 1 => by
    have ih0 := impl_WaitsOn.mono_l k
    · intro y0 y1 y2 y3
      unfold impl_WaitsOn.j0
      repeat' first
      | (with_reducible exact ih0 _ _ _ _)
      | (with_reducible exact impl_areKnown.mono _ _ _)
      | (with_reducible exact impl_reach.mono _ _ _)
      | (with_reducible exact LeO.refl _)
      | (with_reducible exact LeO.none _)
      | (with_reducible refine LeO.ite ?_ ?_)
      | (with_reducible refine LeO.bind ?_ (fun _ => ?_))
      | exact ih0 _ _ _ _
      | exact impl_areKnown.mono _ _ _
      | exact impl_reach.mono _ _ _
      | exact LeO.none _
      | refine LeO.ite ?_ ?_
      | refine LeO.bind ?_ (fun _ => ?_)
theorem impl_WaitsOn.mono : ∀ a0 a1 a2 k, LeO (impl_WaitsOn.f k a0 a1 a2) (impl_WaitsOn.f (k + 1) a0 a1 a2) := by
  intro a0 a1 a2 k
  have ih0 := impl_WaitsOn.mono_l k
  unfold impl_WaitsOn.f
  repeat' first
      | (with_reducible exact ih0 _ _ _ _)
      | (with_reducible exact impl_areKnown.mono _ _ _)
      | (with_reducible exact impl_reach.mono _ _ _)
      | (with_reducible exact LeO.refl _)
      | (with_reducible exact LeO.none _)
      | (with_reducible refine LeO.ite ?_ ?_)
      | (with_reducible refine LeO.bind ?_ (fun _ => ?_))
      | exact ih0 _ _ _ _
      | exact impl_areKnown.mono _ _ _
      | exact impl_reach.mono _ _ _
      | exact LeO.none _
      | refine LeO.ite ?_ ?_
      | refine LeO.bind ?_ (fun _ => ?_)
set_option maxHeartbeats 8000000 in
set_option maxRecDepth 100000 in
theorem impl_WaitsOn.calls (k : Nat) (A0 : Option Addr) (c0 : Nat) (l0 : List (List Int)) (A1 : Option Addr) (c1 : Nat) (l1 : List Int) (a2 : Int) (r1 : List Int) (r2 : Bool) (w : World) (hr0 : Kd.C (Kd.slice 3 (Kd.int .i64)) w A0 l0.length l0) (hc0 : l0.length ≤ c0) (hr1 : Kd.C (Kd.int .i64) w A1 l1.length l1) (hc1 : l1.length ≤ c1) (h : impl_WaitsOn.f k l0 l1 a2 = some (r1, r2)) :
    Calls Try.prog 40 #[.slice A0 l0.length c0, .slice A1 l1.length c1, .int .i64 a2] w fun e w' => ∃ v0_ : Value, e = .returned (.tuple #[v0_, .bool r2]) ∧ Kd.R (Kd.int .i64) 3 w' w.heap.size (fun _ => True) v0_ r1 ∧ Below w.heap.size w w' := by
  have HR0 := Aside0.mk hr0
  have HC0 := Aside0.mk hc0
  clear hr0 hc0
  have HR1 := Aside0.mk hr1
  have HC1 := Aside0.mk hc1
  clear hr1 hc1
  have HB := Aside0.mk (Below.refl w.heap.size w)
  have H : ((impl_areKnown.f k l0 l1).bind fun t223 => (if t223 = true then ((impl_within.f a2 0 (wrap64 ((l0.length : Int) - 1))).bind fun t224 => (impl_WaitsOn.j0 k l0 l1 a2 (!t224))) else (impl_WaitsOn.j0 k l0 l1 a2 true))) = some (r1, r2) := h
  clear h
  have HC4 := Aside0.mk H
  clear H
  go_enter Try.func40, Try.ntmps40
  go_upto_region 1 with (fail)
  go_cut [19] (fun v19 wc => ∃ (kq : Nat) (x19_3 : Bool), v19 = .bool x19_3 ∧ Aside0 (impl_WaitsOn.j0 kq l0 l1 a2 x19_3 = some (r1, r2)) ∧ Aside0 (kq ≤ k) ∧ Aside0 (Below w.heap.size w wc))
  case first =>
    have H := HC4.out
    clear HC4
    replace H := Option.bind_eq_some_iff.mp H
    obtain ⟨t223, A50, H⟩ := H
    replace H : (if t223 = true then ((impl_within.f a2 0 (wrap64 ((l0.length : Int) - 1))).bind fun t224 => (impl_WaitsOn.j0 k l0 l1 a2 (!t224))) else (impl_WaitsOn.j0 k l0 l1 a2 true)) = some (r1, r2) := H
    have A5 := Aside0.mk A50
    clear A50
    by_cases c6 : t223 = true
    · subst c6
      have H1 : ((impl_within.f a2 0 (wrap64 ((l0.length : Int) - 1))).bind fun t224 => (impl_WaitsOn.j0 k l0 l1 a2 (!t224))) = some (r1, r2) := by rw [if_pos rfl] at H; exact H
      clear H
      have H := H1
      clear H1
      replace H := Option.bind_eq_some_iff.mp H
      obtain ⟨t224, A70, H⟩ := H
      replace H : (impl_WaitsOn.j0 k l0 l1 a2 (!t224)) = some (r1, r2) := H
      have A7 := Aside0.mk A70
      clear A70
      have H' := Aside0.mk H
      clear H
      go_wp2_with (first | ((with_reducible refine gate_callee (f := 99) rfl ?_); refine goesL_ (some 10) rfl rfl Try.func99 (by kernel_rfl) rfl #[.slice A0 l0.length c0, .slice A1 l1.length c1] rfl (by (try simp only [List.map_toArray, List.map_cons, List.map_nil]); first | done | rfl | (simp only [List.length_drop, List.length_take]; rfl)) ?_; (with_reducible refine (impl_areKnown.calls k _ _ l0 _ _ l1 true _ ?side1 ?side2 ?side3 ?side4 A5.out).mono ?_); (case side1 => repeat (first | exact (Kd.C_below HR0.out HB.out) | (with_reducible refine Kd.C_alloc ?_ _) | (with_reducible refine Kd.C_drewN ?_ _) | (with_reducible refine Kd.C_drew ?_))); (case side2 => exact HC0.out); (case side3 => repeat (first | exact (Kd.C_below HR1.out HB.out) | (with_reducible refine Kd.C_alloc ?_ _) | (with_reducible refine Kd.C_drewN ?_ _) | (with_reducible refine Kd.C_drew ?_))); (case side4 => exact HC1.out); rintro e w8 ⟨rfl, hb⟩; refine ⟨_, rfl, ?_⟩; have n0_ := Aside0.mk (below_step (by repeat (first | (with_reducible first | exact HB.out | apply below_alloc | apply pw_below_drewN | apply below_drew1) | exact HB.out)) hb); clear HB; have HB := n0_; clear n0_; (try clear hb); (try clear hb2); (try clear hk); (try clear hi)) | (go_at_call 90; (with_reducible refine (impl_within.calls a2 0 (wrap64 ((l0.length : Int) - 1)) t224 _ A7.out).mono ?_); rintro e w' ⟨rfl, ⟨nd, rfl⟩⟩))
      go_meet
      case rel => exact ⟨_, (!t224), (by first | rfl | (simp; done) | (simp [*]; done)), H', ⟨by first | omega | exact Nat.le_refl _⟩, ⟨by repeat (first | (with_reducible first | exact HB.out | apply below_alloc | apply pw_below_drewN | apply below_drew1) | exact HB.out)⟩⟩
    · replace c6 := Bool.eq_false_iff.mpr c6
      subst c6
      have H1 : (impl_WaitsOn.j0 k l0 l1 a2 true) = some (r1, r2) := by rw [if_neg (show ¬ (false = true) by decide)] at H; exact H
      clear H
      have H := H1
      clear H1
      have H' := Aside0.mk H
      clear H
      go_wp2_with (first | ((with_reducible refine gate_callee (f := 99) rfl ?_); refine goesL_ (some 10) rfl rfl Try.func99 (by kernel_rfl) rfl #[.slice A0 l0.length c0, .slice A1 l1.length c1] rfl (by (try simp only [List.map_toArray, List.map_cons, List.map_nil]); first | done | rfl | (simp only [List.length_drop, List.length_take]; rfl)) ?_; (with_reducible refine (impl_areKnown.calls k _ _ l0 _ _ l1 false _ ?side1 ?side2 ?side3 ?side4 A5.out).mono ?_); (case side1 => repeat (first | exact (Kd.C_below HR0.out HB.out) | (with_reducible refine Kd.C_alloc ?_ _) | (with_reducible refine Kd.C_drewN ?_ _) | (with_reducible refine Kd.C_drew ?_))); (case side2 => exact HC0.out); (case side3 => repeat (first | exact (Kd.C_below HR1.out HB.out) | (with_reducible refine Kd.C_alloc ?_ _) | (with_reducible refine Kd.C_drewN ?_ _) | (with_reducible refine Kd.C_drew ?_))); (case side4 => exact HC1.out); rintro e w9 ⟨rfl, hb⟩; refine ⟨_, rfl, ?_⟩; have n0_ := Aside0.mk (below_step (by repeat (first | (with_reducible first | exact HB.out | apply below_alloc | apply pw_below_drewN | apply below_drew1) | exact HB.out)) hb); clear HB; have HB := n0_; clear n0_; (try clear hb); (try clear hb2); (try clear hk); (try clear hi)))
      go_meet
      case rel => exact ⟨_, (true), (by first | rfl | (simp; done) | (simp [*]; done)), H', ⟨by first | omega | exact Nat.le_refl _⟩, ⟨by repeat (first | (with_reducible first | exact HB.out | apply below_alloc | apply pw_below_drewN | apply below_drew1) | exact HB.out)⟩⟩
  case rest =>
    clear HC4
    try clear c1
    try clear p2
    try clear c4
    try clear c6
    try clear p6
    try clear c9
    obtain ⟨kq, x19_3, rfl, HA, HJ3, HB⟩ := hcut
    cases kq with
    | zero => exact absurd HA.out (by simp [impl_WaitsOn.j0])
    | succ kj3 =>
      have H := HA.out
      clear HA
      simp only [impl_WaitsOn.j0] at H
      by_cases c10 : x19_3 = true
      · subst c10
        have H1 : (some (([] : List Int), false)) = some (r1, r2) := by rw [if_pos rfl] at H; exact H
        clear H
        have H := H1
        clear H1
        simp only [Option.some.injEq, Prod.mk.injEq] at H
        obtain ⟨rfl, rfl⟩ := H
        go_wp2
        go_ret2
        exact ⟨_, by first | rfl | (simp [errW_none, errW_some] <;> rfl) | (simp [*, errW_none, errW_some] <;> rfl), by first | exact Kd.R_nil _ _ _ _ _ | exact Kd.N_nil _ _ _ _ _ | exact Kd.V_nil _ _ _ _ _ | exact Kd.Q_nil _ _ _ _ _ | exact Kd.S_nil _ _ _ _ _, by repeat (first | (with_reducible first | exact HB.out | apply below_alloc | apply pw_below_drewN | apply below_drew1) | exact HB.out)⟩
      · replace c10 := Bool.eq_false_iff.mpr c10
        subst c10
        have H1 : ((impl_reach.f kj3 l0 a2).bind fun t225 => ((impl_without.f t225 l1).bind fun t228 => (some (t228, true)))) = some (r1, r2) := by rw [if_neg (show ¬ (false = true) by decide)] at H; exact H
        clear H
        have H := H1
        clear H1
        replace H := Option.bind_eq_some_iff.mp H
        obtain ⟨t225, A110, H⟩ := H
        replace H : ((impl_without.f t225 l1).bind fun t228 => (some (t228, true))) = some (r1, r2) := H
        have A11 := Aside0.mk A110
        clear A110
        replace H := Option.bind_eq_some_iff.mp H
        obtain ⟨t228, A120, H⟩ := H
        replace H : (some (t228, true)) = some (r1, r2) := H
        have A12 := Aside0.mk A120
        clear A120
        simp only [Option.some.injEq, Prod.mk.injEq] at H
        obtain ⟨rfl, rfl⟩ := H
        go_wp2_with (first | ((with_reducible refine gate_callee (f := 91) rfl ?_); refine goesL_ (some 22) rfl rfl Try.func91 (by kernel_rfl) rfl #[.slice A0 l0.length c0, .int .i64 a2] rfl (by (try simp only [List.map_toArray, List.map_cons, List.map_nil]); first | done | rfl | (simp only [List.length_drop, List.length_take]; rfl)) ?_; (with_reducible refine (impl_reach.calls kj3 _ _ l0 a2 t225 _ ?side1 ?side2 A11.out).mono ?_); (case side1 => repeat (first | exact (Kd.C_below HR0.out HB.out) | (with_reducible refine Kd.C_alloc ?_ _) | (with_reducible refine Kd.C_drewN ?_ _) | (with_reducible refine Kd.C_drew ?_))); (case side2 => exact HC0.out); rintro e w13 ⟨v226, rfl, ho0, hb⟩; refine ⟨_, rfl, ?_⟩; have n0_ := Aside0.mk (Kd.R_lower ho0 (below_size (by repeat (first | (with_reducible first | exact HB.out | apply below_alloc | apply pw_below_drewN | apply below_drew1) | exact HB.out)))); have n1_ := Aside0.mk (below_step (by repeat (first | (with_reducible first | exact HB.out | apply below_alloc | apply pw_below_drewN | apply below_drew1) | exact HB.out)) hb); clear HB; have HO227 := n0_; have HB := n1_; clear n0_ n1_; (try clear hb); (try clear hb2); (try clear hk); (try clear hi); (try clear ho0); obtain ⟨Ao14, co14, eo14⟩ := Kd.R_slice HO227.out; subst eo14) | ((with_reducible refine gate_callee (f := 100) rfl ?_); refine goesL_ (some 24) rfl rfl Try.func100 (by kernel_rfl) rfl #[.slice Ao14 t225.length co14, .slice A1 l1.length c1] rfl (by (try simp only [List.map_toArray, List.map_cons, List.map_nil]); first | done | rfl | (simp only [List.length_drop, List.length_take]; rfl)) ?_; (with_reducible refine (impl_without.calls _ _ t225 _ _ l1 t228 _ ?side1 ?side2 ?side3 ?side4 A12.out).mono ?_); (case side1 => repeat (first | exact (Kd.R_reads' HO227.out).2.2 | (with_reducible refine Kd.C_alloc ?_ _) | (with_reducible refine Kd.C_drewN ?_ _) | (with_reducible refine Kd.C_drew ?_))); (case side2 => exact (Kd.R_reads' HO227.out).2.1); (case side3 => repeat (first | exact (Kd.C_below HR1.out HB.out) | (with_reducible refine Kd.C_alloc ?_ _) | (with_reducible refine Kd.C_drewN ?_ _) | (with_reducible refine Kd.C_drew ?_))); (case side4 => exact HC1.out); rintro e w15 ⟨v229, rfl, ho0, hb⟩; refine ⟨_, rfl, ?_⟩; have n0_ := Aside0.mk (Kd.R_elder' (by (with_reducible repeat (first | apply Kd.R_alloc | apply Kd.R_drewN | apply Kd.R_drew)); exact HO227.out) (Kd.R_base ho0) hb); have n1_ := Aside0.mk (Kd.R_lower (Kd.R_new' ho0 (Kd.R_lt (by (with_reducible repeat (first | apply Kd.R_alloc | apply Kd.R_drewN | apply Kd.R_drew)); exact HO227.out))) (below_size (by repeat (first | (with_reducible first | exact HB.out | apply below_alloc | apply pw_below_drewN | apply below_drew1) | exact HB.out)))); have n2_ := Aside0.mk (below_step (by repeat (first | (with_reducible first | exact HB.out | apply below_alloc | apply pw_below_drewN | apply below_drew1) | exact HB.out)) hb); clear HO227; clear HB; have HO227 := n0_; have HO230 := n1_; have HB := n2_; clear n0_ n1_ n2_; (try clear hb); (try clear hb2); (try clear hk); (try clear hi); (try clear ho0)))
        go_ret2
        exact ⟨_, by first | rfl | (simp [errW_none, errW_some] <;> rfl) | (simp [*, errW_none, errW_some] <;> rfl), by (with_reducible repeat (first | apply Kd.R_alloc | apply Kd.R_drewN | apply Kd.R_drew)); exact Kd.R_mono HO230.out (fun _ hk => trivial), by repeat (first | (with_reducible first | exact HB.out | apply below_alloc | apply pw_below_drewN | apply below_drew1) | exact HB.out)⟩

-- NOT PRINTED: function 6 (laws_FnExactWaitsOn)

end Go.Proofs.Ytmhmemiombcmnaa.PFnExactWaitsOn
