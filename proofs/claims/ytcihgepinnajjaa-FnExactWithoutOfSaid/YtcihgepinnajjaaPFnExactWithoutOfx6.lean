-- Written for this claim by the session's own program (drive.py), over the kit's print, with contracts typed by hand.
import Derived.Test.YtcihgepinnajjaaPFnExactWithoutOfx0
import Derived.Test.YtcihgepinnajjaaPFnExactWithoutOfx2
import Derived.Test.YtcihgepinnajjaaPFnExactWithoutOfx5
namespace Go.Proofs.Ytcihgepinnajjaa.PFnExactWithoutOf
open Go.RowKit Go.Proofs.YtcihgepinnajjaaW.PrintWords Go.Proofs.YtcihgepinnajjaaW.PrintLast Go.Proofs.YtcihgepinnajjaaW.PrintMore
attribute [local go_sem] max2_int min2_int max_two min_two max_three min_three max_four min_four   -- for this text's walks alone
set_option linter.unusedVariables false
set_option linter.unusedSimpArgs false

/-! ### slices_IndexFunc_int_int_101: function 101, by hand -/
set_option maxHeartbeats 2000000 in
/-- slices.IndexFunc at []int. -/
theorem IndexFunc_int (g : Nat) (lb : Array Value) (eg : ∀ args w, (callFunc g args).run Try.prog w = .ok (.enter g args) w) (A : Option Addr) (c : Nat) (xs : List Int) (p : Int → Bool) (w : World)
  (hp : Pred1 (Kd.int .i64) g lb xs p w) (hr : Kd.C (Kd.int .i64) w A xs.length xs) :
  Calls Try.prog 101 #[.slice A xs.length c, .func (.func g) #[] lb] w fun e w' => e = .returned (.int .i64 (idxF p xs)) ∧ Below w.heap.size w w' := by
 have hm : xs.length ≤ 9223372036854775807 := hr.2.1
 have HR := Aside0.mk hr
 have HP := Aside0.mk hp
 clear hr hp
 go_enter Try.func101, Try.ntmps101
 go_wp2
 go_loopg [5, 8] xs.length (fun gg _ s8 wr => ∃ kk : Nat, kk ≤ xs.length ∧ xs.length - kk ≤ gg ∧ s8 = .int .i64 kk ∧ Aside0 (Below w.heap.size w wr) ∧ Aside0 (∀ j, j < kk → p (xs.getD j 0) = false))
 case atStart => exact ⟨0, Nat.zero_le _, by omega, rfl, ⟨Below.refl _ w⟩, ⟨fun j hj => absurd hj (Nat.not_lt_zero _)⟩⟩
 case round =>
  obtain ⟨kk, hkk, hg, rfl, BW, AB⟩ := hrel
  by_cases hlt : kk < xs.length
  ·have hltz : (kk : Int) < (xs.length : Int) := by omega
   obtain ⟨ad, e0, hc0⟩ := Kd.at_int HR.out (kk : Int) (by omega) hltz
   cases e0
   have hc1 : wr.cell? (ad.add kk) = some (.int .i64 (xs.getD kk 0)) := by
    have := pw_cell_below BW.out hc0
    simpa [rd] using this
   clear hc0
   have hcall := HP.out wr (xs.getD kk 0) (.int .i64 (xs.getD kk 0)) BW.out (mem_getD xs 0 kk hlt) rfl
   generalize hy : xs.getD kk 0 = y at hc1 hcall
   have B := Aside0.mk hy
   clear hy
   cases hq : p y with
   | true =>
    rw [hq] at hcall
    have HQ := Aside0.mk hq
    clear hq
    go_wp2_with (go_at_fn g; refine hcall.mono ?_; rintro e w' ⟨rfl, hb'⟩)
    go_ret
    refine ⟨?_, below_then BW.out BW.out.size hb'⟩
    rw [idxF_hit p xs 0 kk hlt (by rw [B.out]; exact HQ.out) AB.out]
    rfl
   | false =>
    rw [hq] at hcall
    have HQ := Aside0.mk hq
    clear hq
    go_wp2_with (go_at_fn g; refine hcall.mono ?_; rintro e w' ⟨rfl, hb'⟩)
    go_roundg (xs.length - (kk + 1))
    case measure => omega
    case rel =>
     refine ⟨kk + 1, by omega, by omega, by go_num, ⟨below_then BW.out BW.out.size hb'⟩, ⟨fun j hj => ?_⟩⟩
     by_cases e : j = kk
     ·subst e
      rw [B.out]
      exact HQ.out
     ·exact AB.out j (by omega)
  ·have hltz : ¬ (kk : Int) < (xs.length : Int) := by omega
   have : kk = xs.length := by omega
   subst this
   go_wp2
   go_ret
   refine ⟨?_, BW.out⟩
   rw [idxF_miss p xs 0 AB.out]
   rfl

/-! ### slices_ContainsFunc_int_int_94: function 94, by hand -/
/-- slices.ContainsFunc at []int. -/
theorem ContainsFunc_int (g : Nat) (lb : Array Value) (eg : ∀ args w, (callFunc g args).run Try.prog w = .ok (.enter g args) w) (A : Option Addr) (c : Nat) (xs : List Int) (p : Int → Bool) (w : World)
  (hp : Pred1 (Kd.int .i64) g lb xs p w) (hr : Kd.C (Kd.int .i64) w A xs.length xs) :
  Calls Try.prog 94 #[.slice A xs.length c, .func (.func g) #[] lb] w fun e w' => e = .returned (.bool (xs.any p)) ∧ Below w.heap.size w w' := by
 have H := IndexFunc_int g lb eg A c xs p w hp hr
 rw [← idxF_any p xs]
 clear hp hr
 generalize idxF p xs = q at H ⊢
 go_enter Try.func94, Try.ntmps94
 go_wp2_with (go_at_call 101; refine H.mono ?_; rintro e w' ⟨rfl, hb⟩)
 go_ret
 exact ⟨by first | rfl | simp, hb⟩

/-! ### impl_isSmall: function 96 -/
def impl_isSmall.f (a0 : Int) : Option (Bool) := (impl_within.f a0 (-1000) 1000).bind fun t267 => (some t267)
set_option maxHeartbeats 8000000 in
set_option maxRecDepth 100000 in
theorem impl_isSmall.calls (a0 : Int) (r : Bool) (w : World) (h : impl_isSmall.f a0 = some r) :
  Calls Try.prog 96 #[.int .i64 a0] w fun e w' => e = .returned (.bool r) ∧ Drawn0 w w' := by
 have H : ((impl_within.f a0 (-1000) 1000).bind fun t267 => (some t267)) = some r := h
 clear h
 replace H := Option.bind_eq_some_iff.mp H
 obtain ⟨t267, A20, H⟩ := H
 replace H : (some t267) = some r := H
 have A2 := Aside0.mk A20
 clear A20
 obtain rfl := Option.some.inj H
 go_enter Try.func96, Try.ntmps96
 go_wp2_with (first | ((with_reducible refine gate_callee (f := 71) rfl ?_); refine goesL_ (some 4) rfl rfl Try.func71 (by kernel_rfl) rfl #[.int .i64 a0, .int .i64 (-1000), .int .i64 1000] rfl (by (try simp only [List.map_toArray, List.map_cons, List.map_nil]); first | done | rfl | (simp only [List.length_drop, List.length_take]; rfl)) ?_; (with_reducible refine (impl_within.calls a0 (-1000) 1000 t267 _ A2.out).mono ?_); rintro e w' ⟨rfl, ⟨nd, rfl⟩⟩; refine ⟨_, rfl, ?_⟩))
 go_ret
 exact ⟨by first | rfl | (simp; done) | (simp [*]; done), by repeat (first | exact Drawn0.refl _ | apply Drawn0.step)⟩

/-! ### impl_GoodRelation_1: function 95, by hand -/
-- PURE BLOCK base
theorem w64 {i : Int} (h0 : -9223372036854775808 ≤ i) (h1 : i ≤ 9223372036854775807) : wrap64 i = i := by
 unfold wrap64
 omega

theorem rdn (l : List Int) (i : Nat) : rd l (i : Int) = l.getD i 0 := by simp [rd]

/-- A round of a loop, then what it comes to. -/
theorem ev_step {α : Type} {g f : Nat → Option α} {r : α} (k : Ev f r) (h : ∀ k, g (k + 1) = f k) : Ev g r := Ev.step h k
theorem ev_some {α : Type} {g : Nat → Option α} {r : α} (h : ∀ k, g k = some r) : Ev g r := ⟨0, fun k _ => h k⟩
theorem ev_stop {α : Type} {g : Nat → Option α} {r : α} (h : ∀ k, g (k + 1) = some r) : Ev g r := Ev.step h (Ev.now r)
theorem ev_bind {α β : Type} {g : Nat → Option α} {f : Nat → α → Option β} {a : α} {r : β} (h : Ev g a) (k : Ev (fun n => f n a) r) : Ev (fun n => (g n).bind (f n)) r := Ev.bind h k
theorem ev_some_bind {α β : Type} {g : Option α} {f : Nat → α → Option β} {a : α} {r : β} (h : g = some a) (k : Ev (fun n => f n a) r) : Ev (fun n => g.bind (f n)) r := by
 subst h
 exact k
theorem ev_ite_pos {α : Type} {c : Prop} [Decidable c] {g f : Nat → Option α} {r : α} (hc : c) (h : Ev g r) : Ev (fun n => if c then g n else f n) r := Ev.congr (fun _ => if_pos hc) h
theorem ev_ite_neg {α : Type} {c : Prop} [Decidable c] {g f : Nat → Option α} {r : α} (hc : ¬ c) (h : Ev f r) : Ev (fun n => if c then g n else f n) r := Ev.congr (fun _ => if_neg hc) h

-- PURE BLOCK within
theorem within_tells (a b c : Int) : impl_within.f a b c = some (decide (b ≤ a) && decide (a ≤ c)) := by
 unfold impl_within.f
 by_cases h : a ≥ b
 ·rw [if_pos h]; simp [show b ≤ a from h]
 ·rw [if_neg h]; simp [show ¬ b ≤ a from h]

theorem h_small1 (xs : List Int) (w : World) : Pred1 (Kd.int .i64) 95 #[] xs (fun n => !(decide (-1000 ≤ n) && decide (n ≤ 1000))) w := by
 intro W x v hb _ hK
 obtain rfl : v = .int .i64 x := by
  have : [v] = [Value.int .i64 x] := hK
  simpa using this
 have hf : impl_isSmall.f x = some (decide (-1000 ≤ x) && decide (x ≤ 1000)) := by
  unfold impl_isSmall.f
  rw [within_tells]
  rfl
 have HC := Lib.hid (impl_isSmall.calls x _ W hf)
 show Calls Try.prog 95 #[.int .i64 x] W fun e w' => e = .returned (.bool (!(decide (-1000 ≤ x) && decide (x ≤ 1000)))) ∧ Below W.heap.size W w'
 clear hf
 generalize (decide (-1000 ≤ x) && decide (x ≤ 1000)) = q at HC ⊢
 go_enter Try.func95, Try.ntmps95
 go_wp2_with (go_at_call 96; refine HC.out.mono ?_; rintro e w' ⟨rfl, hd⟩)
 go_ret
 exact ⟨by first | rfl | simp, hd.below⟩

/-! ### impl_GoodRelation: function 80, by hand -/
-- PURE BLOCK rise
def okAt (l : List Int) (a b : Int) (i : Nat) : Bool := (decide (a ≤ l.getD i 0) && decide (l.getD i 0 ≤ b)) && (decide (i = 0) || decide (l.getD (i - 1) 0 < l.getD i 0))
/-- Rising numbers from a to b. -/
def riseB (l : List Int) (a b : Int) : Bool := (List.range l.length).all (okAt l a b)
theorem rise_l (l : List Int) (a b : Int) (hl : l.length ≤ 4611686018427387904) : ∀ (d i : Nat), i + d = l.length → Ev (fun k => impl_isRising.l0 k l a b l (l.length : Int) (i : Int)) ((List.range' i d).all (okAt l a b))
 | 0, i, h => ev_stop fun k => by
  rw [impl_isRising.l0, if_neg (by omega)]
  rfl
 | d + 1, i, h => by
  have ih := rise_l l a b hl d (i + 1) (by omega)
  have h1 : wrap64 ((i : Int) + 1) = ((i + 1 : Nat) : Int) := by rw [w64 (by omega) (by omega)]; omega
  have key : ∀ k, impl_isRising.l0 (k + 1) l a b l (l.length : Int) (i : Int) = if okAt l a b i = true then impl_isRising.l0 k l a b l (l.length : Int) ((i + 1 : Nat) : Int) else some false := by
   intro k
   rw [impl_isRising.l0, if_pos (by omega), if_pos (by omega), if_pos (by omega), within_tells, Option.bind_some, h1, rdn]
   unfold okAt
   cases hw : (decide (a ≤ l.getD i 0) && decide (l.getD i 0 ≤ b)) with
   | false => simp
   | true =>
    rw [if_pos rfl]
    by_cases h0 : i = 0
    ·rw [if_neg (by omega)]
     simp [h0]
    ·have h2 : wrap64 ((i : Int) - 1) = ((i - 1 : Nat) : Int) := by rw [w64 (by omega) (by omega)]; omega
     rw [if_pos (by omega), h2, if_pos (by omega), if_pos (by omega), rdn]
     by_cases h3 : l.getD (i - 1) 0 ≥ l.getD i 0
     ·rw [if_pos h3, if_neg]
      simp only [Bool.true_and, Bool.or_eq_true, decide_eq_true_eq]
      omega
     ·rw [if_neg h3, if_pos]
      simp only [Bool.true_and, Bool.or_eq_true, decide_eq_true_eq]
      omega
  rw [List.range'_succ, List.all_cons]
  refine Ev.step key ?_
  cases okAt l a b i with
  | true => simpa using ih
  | false => exact ⟨0, fun k _ => by simp⟩
theorem rise_tells (l : List Int) (a b : Int) (hl : l.length ≤ 4611686018427387904) : Ev (fun k => impl_isRising.f k l a b) (riseB l a b) := by
 have h := rise_l l a b hl l.length 0 (by omega)
 unfold riseB
 rw [List.range_eq_range']
 exact h

-- PURE BLOCK cmpl
/-- What slices.Compare tells. -/
def cmpL : List Int → List Int → Int
 | [], [] => 0
 | [], _ :: _ => -1
 | _ :: _, [] => 1
 | a :: r, b :: s => if a < b then -1 else if b < a then 1 else cmpL r s
theorem cmp1 (a b : Int) : cmp_Compare_int.f a b = some (if a < b then -1 else if b < a then 1 else 0) := by
 have hn : ∀ x : Int, cmp_isNaN_int.f x = some false := fun x => by simp [cmp_isNaN_int.f]
 unfold cmp_Compare_int.f
 rw [hn, hn, Option.bind_some, Option.bind_some, if_neg (by decide), if_neg (by decide)]
 by_cases h : a < b
 ·rw [if_pos h, if_pos h]
 ·rw [if_neg h, if_neg h]
  by_cases h2 : b < a
  ·rw [if_pos h2, if_pos h2]
  ·rw [if_neg h2, if_neg h2]
theorem drop_i (l : List Int) (i : Nat) (h : i < l.length) : l.drop i = rd l (i : Int) :: l.drop (i + 1) := by
 rw [List.drop_eq_getElem_cons h, rdn, List.getD_eq_getElem?_getD, List.getElem?_eq_getElem h]
 rfl
theorem scmp_l (a b : List Int) (ha : a.length ≤ 4611686018427387904) : ∀ (d i : Nat), i + d = a.length → Ev (fun k => slices_Compare_int_int.l0 k a b a (a.length : Int) (i : Int)) (cmpL (a.drop i) (b.drop i))
 | 0, i, h => ev_stop fun k => by
  rw [slices_Compare_int_int.l0, if_neg (by omega), List.drop_of_length_le (show a.length ≤ i by omega)]
  by_cases hb : i < b.length
  ·rw [if_pos (by omega), drop_i b i hb]
   rfl
  ·rw [if_neg (by omega), List.drop_of_length_le (show b.length ≤ i by omega)]
   rfl
 | d + 1, i, h => by
  rw [drop_i a i (by omega)]
  have hn : wrap64 ((i : Int) + 1) = ((i + 1 : Nat) : Int) := by rw [w64 (by omega) (by omega)]; omega
  by_cases hb : i < b.length
  ·rw [drop_i b i hb, cmpL]
   by_cases h1 : rd a (i : Int) < rd b (i : Int)
   ·rw [if_pos h1]
    exact ev_stop fun k => by
     rw [slices_Compare_int_int.l0, if_pos (by omega), if_pos (by omega), if_pos (by omega), if_neg (by omega), if_pos (by omega), cmp1, Option.bind_some, if_pos h1, if_neg (by decide)]
   ·rw [if_neg h1]
    by_cases h2 : rd b (i : Int) < rd a (i : Int)
    ·rw [if_pos h2]
     exact ev_stop fun k => by
      rw [slices_Compare_int_int.l0, if_pos (by omega), if_pos (by omega), if_pos (by omega), if_neg (by omega), if_pos (by omega), cmp1, Option.bind_some, if_neg h1, if_pos h2, if_neg (by decide)]
    ·rw [if_neg h2]
     refine ev_step (scmp_l a b ha d (i + 1) (by omega)) fun k => ?_
     rw [slices_Compare_int_int.l0, if_pos (by omega), if_pos (by omega), if_pos (by omega), if_neg (by omega), if_pos (by omega), cmp1, Option.bind_some, if_neg h1, if_neg h2, if_pos rfl, hn]
  ·rw [List.drop_of_length_le (show b.length ≤ i by omega)]
   exact ev_stop fun k => by
    rw [slices_Compare_int_int.l0, if_pos (by omega), if_pos (by omega), if_pos (by omega), if_pos (by omega)]
    rfl
theorem scmp_tells (a b : List Int) (ha : a.length ≤ 4611686018427387904) : Ev (fun k => slices_Compare_int_int.f k a b) (cmpL a b) := scmp_l a b ha a.length 0 (by omega)
theorem cmpL_self : ∀ a, cmpL a a = 0
 | [] => rfl
 | x :: a => by rw [cmpL, if_neg (by omega), if_neg (by omega), cmpL_self a]
theorem cmpL_eq : ∀ {a b : List Int}, cmpL a b = 0 → a = b
 | [], [], _ => rfl
 | [], _ :: _, h => by simp [cmpL] at h
 | _ :: _, [], h => by simp [cmpL] at h
 | x :: a, y :: b, h => by
  rw [cmpL] at h
  split at h
  ·simp at h
  ·split at h
   ·simp at h
   ·rw [cmpL_eq h, show x = y by omega]
theorem cmpL_swap : ∀ a b : List Int, cmpL b a = - cmpL a b
 | [], [] => rfl
 | [], _ :: _ => rfl
 | _ :: _, [] => rfl
 | x :: a, y :: b => by
  rw [cmpL, cmpL]
  by_cases h : x < y
  ·rw [if_neg (by omega), if_pos h, if_pos h]; rfl
  ·rw [if_neg h]
   by_cases h2 : y < x
   ·rw [if_pos h2, if_pos h2, if_neg h]
   ·rw [if_neg h2, if_neg h2, if_neg h]
    exact cmpL_swap a b
theorem cmpL_trans : ∀ {a b c : List Int}, cmpL a b < 0 → cmpL b c < 0 → cmpL a c < 0
 | [], [], _, h, _ => by simp [cmpL] at h
 | _ :: _, [], _, h, _ => by simp [cmpL] at h
 | _, _ :: _, [], _, h => by simp [cmpL] at h
 | [], _ :: _, _ :: _, _, _ => by simp [cmpL]
 | x :: a, y :: b, z :: c, h, h2 => by
  rw [cmpL] at h h2 ⊢
  by_cases h3 : x < y
  ·by_cases h4 : z < y
   ·rw [if_neg (by omega), if_pos h4] at h2; simp at h2
   ·rw [if_pos (show x < z by omega)]; omega
  ·rw [if_neg h3] at h
   by_cases h4 : y < x
   ·rw [if_pos h4] at h; simp at h
   ·rw [if_neg h4] at h
    obtain rfl : x = y := by omega
    by_cases h5 : x < z
    ·rw [if_pos h5]; omega
    ·rw [if_neg h5] at h2 ⊢
     by_cases h6 : z < x
     ·rw [if_pos h6] at h2; simp at h2
     ·rw [if_neg h6] at h2 ⊢
      exact cmpL_trans h h2
theorem cmpL_ntrans {a b c : List Int} (h : ¬ cmpL a b < 0) (h2 : ¬ cmpL b c < 0) : ¬ cmpL a c < 0 := by
 intro h3
 have e1 := cmpL_swap a b
 have e2 := cmpL_swap b c
 have e3 := cmpL_swap a c
 by_cases h4 : cmpL a b = 0
 ·rw [cmpL_eq h4] at h3; exact h2 h3
 ·by_cases h5 : cmpL b c = 0
  ·rw [cmpL_eq h5] at h; exact h h3
  ·have := cmpL_trans (a := c) (b := b) (c := a) (by omega) (by omega)
   omega

/-- Numbers that are as many as they should be, and small. -/
def tupB (n : Nat) (t : List Int) : Bool := decide (t.length = n) && !(t.any fun n => !(decide (-1000 ≤ n) && decide (n ≤ 1000)))
def relOk (n : Nat) (l : List (List Int)) (i : Nat) : Bool := tupB n (l.getD i []) && (decide (i = 0) || decide (cmpL (l.getD (i - 1) []) (l.getD i []) < 0))
def relB (names : List Int) (l : List (List Int)) : Bool := (decide (names.length ≤ 6) && (riseB names 0 20 && decide (l.length ≤ 60))) && (List.range l.length).all (relOk names.length l)
theorem relB_no {names : List Int} {l : List (List Int)} (k : Nat) (hk : k < l.length) (h : relOk names.length l k = false) : relB names l = false := by
 unfold relB
 have : (List.range l.length).all (relOk names.length l) = false := by
  rw [List.all_eq_false]
  exact ⟨k, List.mem_range.2 hk, by rw [h]; simp⟩
 rw [this, Bool.and_false]
theorem relB_yes {names : List Int} {l : List (List Int)} (h6 : names.length ≤ 6) (hr : riseB names 0 20 = true) (h60 : l.length ≤ 60) (h : ∀ j, j < l.length → relOk names.length l j = true) : relB names l = true := by
 unfold relB
 have : (List.range l.length).all (relOk names.length l) = true := List.all_eq_true.2 fun j hj => h j (List.mem_range.1 hj)
 rw [this, hr, decide_eq_true h6, decide_eq_true h60]
 rfl
def impl_GoodRelation.f (l0_0 : List Int) (l0_1 : List (List Int)) : Option (Bool) := if l0_0.length ≤ 1100000 ∧ l0_1.length ≤ 1100000 ∧ ∀ t ∈ l0_1, t.length ≤ 1100000 then some (relB l0_0 l0_1) else none
set_option maxHeartbeats 8000000 in
set_option maxRecDepth 100000 in
theorem impl_GoodRelation.calls (A0_0 : Option Addr) (c0_0 : Nat) (l0_0 : List Int) (A0_1 : Option Addr) (c0_1 : Nat) (l0_1 : List (List Int)) (r : Bool) (w : World) (hr0_0 : Kd.C (Kd.int .i64) w A0_0 l0_0.length l0_0) (hc0_0 : l0_0.length ≤ c0_0) (hr0_1 : Kd.C (Kd.slice 3 (Kd.int .i64)) w A0_1 l0_1.length l0_1) (hc0_1 : l0_1.length ≤ c0_1) (h : impl_GoodRelation.f l0_0 l0_1 = some r) :
  Calls Try.prog 80 #[.agg #[.slice A0_0 l0_0.length c0_0, .slice A0_1 l0_1.length c0_1]] w fun e w' => e = .returned (.bool r) ∧ Below w.heap.size w w' := by
 unfold impl_GoodRelation.f at h
 by_cases hb : l0_0.length ≤ 1100000 ∧ l0_1.length ≤ 1100000 ∧ ∀ t ∈ l0_1, t.length ≤ 1100000
 ·rw [if_pos hb] at h
  obtain rfl := Option.some.inj h
  obtain ⟨hb0, hb1, hb2⟩ := hb
  clear h
  have eg : ∀ args w, (callFunc 95 args).run Try.prog w = .ok (.enter 95 args) w := enters_ Try.func95 (by kernel_rfl) rfl
  obtain ⟨K, hK⟩ := rise_tells l0_0 0 20 (by omega)
  have hBw : Below w.heap.size w (w.alloc (.cells #[.slice A0_0 l0_0.length c0_0, .slice A0_1 l0_1.length c0_1] 44)) := below_alloc (Below.refl _ _) _
  obtain ⟨W1, hW1⟩ : ∃ W1, W1 = w.alloc (.cells #[.slice A0_0 l0_0.length c0_0, .slice A0_1 l0_1.length c0_1] 44) := ⟨_, rfl⟩
  have hy0 : W1.cell? ⟨w.heap.size, 0, none⟩ = some (.slice A0_0 l0_0.length c0_0) := by rw [hW1]; simp
  have hy1 : W1.cell? ⟨w.heap.size, 1, none⟩ = some (.slice A0_1 l0_1.length c0_1) := by rw [hW1]; simp
  rw [← hW1] at hBw
  have HB0 := Aside0.mk hBw
  have HY0 := Aside0.mk hy0
  have HY1 := Aside0.mk hy1
  have HW1 := Aside0.mk hW1
  have HR0 := Aside0.mk (Kd.C_below hr0_0 hBw)
  have HR1 := Aside0.mk (Kd.C_below hr0_1 hBw)
  have HRI := Lib.hid (show ∀ W, Below W1.heap.size W1 W → Calls Try.prog 93 #[.slice A0_0 l0_0.length c0_0, .int .i64 0, .int .i64 20] W fun e w' => e = .returned (.bool (riseB l0_0 0 20)) ∧ Drawn0 W w' from fun W hb => impl_isRising.calls K A0_0 c0_0 l0_0 0 20 _ W (Kd.C_below (Kd.C_below hr0_0 hBw) hb) hc0_0 (hK K (Nat.le_refl _)))
  have HH := Aside0.mk hb2
  clear hr0_0 hr0_1 hK hBw hy0 hy1 hb2
  by_cases h6 : l0_0.length ≤ 6
  ·have h6z : ¬ (6 : Int) < (l0_0.length : Int) := by omega
   cases hris : riseB l0_0 0 20 with
   | false =>
    have er : relB l0_0 l0_1 = false := by unfold relB; rw [hris]; simp
    rw [er]
    rw [hris] at HRI
    clear er hris hW1
    go_enter Try.func80, Try.ntmps80
    go_wp2_with (go_at_call 93; refine (HRI.out _ (by rw [HW1.out]; exact Below.refl _ _)).mono ?_; rintro e w2 ⟨rfl, hd⟩)
    go_ret
    refine ⟨rfl, below_step HB0.out ?_⟩
    rw [HW1.out]
    exact hd.below
   | true =>
    rw [hris] at HRI
    have HRIS := Aside0.mk hris
    by_cases h60 : l0_1.length ≤ 60
    ·have h60z : ¬ (60 : Int) < (l0_1.length : Int) := by omega
     clear hris hW1
     go_enter Try.func80, Try.ntmps80
     go_wp2_with (go_at_call 93; refine (HRI.out _ (by rw [HW1.out]; exact Below.refl _ _)).mono ?_; rintro e w2 ⟨rfl, hd⟩; have hbd : Below W1.heap.size W1 w2 := (by have := hd.below; rw [← HW1.out] at this; exact this); have hz0 := pw_cell_below hbd HY0.out; have hz1 := pw_cell_below hbd HY1.out; clear hd)
     have HBD := Aside0.mk hbd
     clear hbd hz0 hz1
     go_loopg [3, 4, 24] l0_1.length (fun gg _ _ s24 wr => ∃ kk : Nat, kk ≤ l0_1.length ∧ l0_1.length - kk ≤ gg ∧ s24 = .int .i64 kk ∧ Aside0 (Below W1.heap.size W1 wr) ∧ Aside0 (∀ j, j < kk → relOk l0_0.length l0_1 j = true))
     case atStart => exact ⟨0, Nat.zero_le _, by omega, rfl, HBD, ⟨fun j hj => absurd hj (Nat.not_lt_zero _)⟩⟩
     case round =>
      clear HBD
      obtain ⟨kk, hkk, hg, rfl, BW, AB⟩ := hrel
      have hz0 := pw_cell_below BW.out HY0.out
      have hz1 := pw_cell_below BW.out HY1.out
      by_cases hlt : kk < l0_1.length
      ·have hltz : (kk : Int) < (l0_1.length : Int) := by omega
       have hk0z : (0 : Int) ≤ (kk : Int) := by omega
       obtain ⟨ad, cs, e0, _, hK, hcell⟩ := Kd.C_get HR1.out [] (kk : Int) (by omega) hltz
       rw [Int.toNat_natCast] at hK hcell
       cases e0
       obtain ⟨A1, c1, rfl, hl1, hC1⟩ := hK
       have hx1 : wr.cell? (ad.add kk) = some (.slice A1 (l0_1.getD kk []).length c1) := by
        have h1 := pw_cell_below BW.out (hcell 0 _ rfl)
        have hsz : (Kd.slice 3 (Kd.int .i64)).sz = 1 := rfl
        rwa [hsz, Nat.mul_one, Nat.add_zero] at h1
       clear hcell
       have hxm : l0_1.getD kk [] ∈ l0_1 := mem_getD l0_1 [] kk hlt
       obtain ⟨x, hx⟩ : ∃ x, x = l0_1.getD kk [] := ⟨_, rfl⟩
       rw [← hx] at hx1 hl1 hC1 hxm
       have HX := Aside0.mk hx
       have hxb := HH.out x hxm
       have HCF := Lib.hid (show ∀ W, Below W1.heap.size W1 W → Calls Try.prog 94 #[.slice A1 x.length c1, .func (.func 95) #[] #[]] W _ from fun W hb => ContainsFunc_int _ _ eg A1 c1 x _ W (h_small1 x W) (Kd.C_below hC1 hb))
       clear hx hxm
       by_cases hlen : x.length = l0_0.length
       ·have hne : ((x.length : Int) != (l0_0.length : Int)) = false := by simp; omega
        have HLEN := Aside0.mk hlen
        clear hlen
        cases hany : x.any (fun n => !(decide (-1000 ≤ n) && decide (n ≤ 1000))) with
        | true =>
         rw [hany] at HCF
         have er : relB l0_0 l0_1 = false := relB_no kk hlt (by unfold relOk tupB; rw [← HX.out, hany]; simp)
         have ER := Aside0.mk er
         clear er hany hC1
         go_wp2_with (go_at_call 94; refine (HCF.out _ BW.out).mono ?_; rintro e w2 ⟨rfl, hb⟩)
         go_ret
         rw [ER.out]
         exact ⟨rfl, below_step HB0.out (below_step BW.out hb)⟩
        | false =>
         rw [hany] at HCF
         have HANY := Aside0.mk hany
         clear hany
         by_cases hk0 : kk = 0
         ·have hgt : ¬ (0 : Int) < (kk : Int) := by omega
          have HK0 := Aside0.mk hk0
          clear hk0 hC1
          go_wp2_with (go_at_call 94; refine (HCF.out _ BW.out).mono ?_; rintro e w2 ⟨rfl, hb⟩)
          go_roundg (l0_1.length - (kk + 1))
          case measure => omega
          case rel =>
           refine ⟨kk + 1, by omega, by omega, by go_num, ⟨below_step BW.out hb⟩, ⟨fun j hj => ?_⟩⟩
           by_cases e : j = kk
           ·subst e
            unfold relOk tupB
            rw [← HX.out, HANY.out, decide_eq_true HLEN.out, decide_eq_true HK0.out]
            rfl
           ·exact AB.out j (by omega)
         ·have hgt : (0 : Int) < (kk : Int) := by omega
          obtain ⟨kp, hkp⟩ : ∃ kp, kp + 1 = kk := ⟨kk - 1, by omega⟩
          have hwk : IntKind.i64.wrap ((kk : Int) - 1) = (kp : Int) := by rw [← hkp]; simp [IntKind.wrap, IntKind.bits, IntKind.signed]; omega
          have hkp0 : (0 : Int) ≤ (kp : Int) := by omega
          have hkp1 : (kp : Int) < (l0_1.length : Int) := by omega
          obtain ⟨ad2, cs2, e2, _, hK2, hcell2⟩ := Kd.C_get HR1.out [] (kp : Int) (by omega) hkp1
          rw [Int.toNat_natCast] at hK2 hcell2
          injection e2 with e2
          subst e2
          obtain ⟨A2, c2, rfl, hl2, hC2⟩ := hK2
          have hx2 : W1.cell? (ad.add kp) = some (.slice A2 (l0_1.getD kp []).length c2) := by
           have h1 := hcell2 0 _ rfl
           have hsz : (Kd.slice 3 (Kd.int .i64)).sz = 1 := rfl
           rwa [hsz, Nat.mul_one, Nat.add_zero] at h1
          clear hcell2
          obtain ⟨y, hy⟩ : ∃ y, y = l0_1.getD kp [] := ⟨_, rfl⟩
          have hyb := HH.out _ (mem_getD l0_1 [] kp (by omega))
          rw [← hy] at hx2 hl2 hC2 hyb
          have HY := Aside0.mk hy
          have HX2 := Aside0.mk hx2
          obtain ⟨K2, hK2⟩ := scmp_tells y x (by omega)
          have HCM := Lib.hid (show ∀ W, Below W1.heap.size W1 W → Calls Try.prog 83 #[.slice A2 y.length c2, .slice A1 x.length c1] W fun e w' => e = .returned (.int .i64 (cmpL y x)) ∧ Drawn0 W w' from fun W hb => slices_Compare_int_int.calls K2 A2 c2 y A1 c1 x _ W (Kd.C_below hC2 hb) hl2 (Kd.C_below hC1 hb) hl1 (hK2 K2 (Nat.le_refl _)))
          have HKP := Aside0.mk hkp
          clear hy hx2 hC1 hC2 hK2 hkp hk0
          by_cases hc : cmpL y x < 0
          ·have hcm : ¬ (0 : Int) ≤ cmpL y x := by omega
           have HC := Aside0.mk hc
           clear hc
           generalize hm : cmpL y x = m at hcm HCM
           have HM := Aside0.mk hm
           clear hm
           go_wp2_with (first | (go_at_call 94; refine (HCF.out _ BW.out).mono ?_; rintro e w2 ⟨rfl, hb⟩; have hq1 := pw_cell_below (below_step BW.out hb) HY1.out; have hq2 := pw_cell_below (below_step BW.out hb) HX2.out; have HB2 := Aside0.mk (below_step BW.out hb); clear hb) | (go_at_call 83; refine (HCM.out _ HB2.out).mono ?_; rintro e w3 ⟨rfl, hd⟩; have hb := hd.below; clear hd))
           have hkp := HKP.out
           go_roundg (l0_1.length - (kk + 1))
           case measure => omega
           case rel =>
            refine ⟨kk + 1, by omega, by omega, by go_num, ⟨below_step HB2.out hb⟩, ⟨fun j hj => ?_⟩⟩
            by_cases e : j = kk
            ·subst e
             unfold relOk tupB
             rw [show j - 1 = kp by omega, ← HX.out, ← HY.out, HANY.out, decide_eq_true HLEN.out, decide_eq_true (show cmpL y x < 0 from HC.out)]
             simp
            ·exact AB.out j (by omega)
          ·have hcm : (0 : Int) ≤ cmpL y x := by omega
           have er : relB l0_0 l0_1 = false := relB_no kk hlt (by
            unfold relOk
            rw [show kk - 1 = kp by have := HKP.out; omega, ← HX.out, ← HY.out, decide_eq_false hc, decide_eq_false (show ¬ kk = 0 by omega)]
            simp)
           have ER := Aside0.mk er
           clear hc er
           generalize cmpL y x = m at hcm HCM
           go_wp2_with (first | (go_at_call 94; refine (HCF.out _ BW.out).mono ?_; rintro e w2 ⟨rfl, hb⟩; have hq1 := pw_cell_below (below_step BW.out hb) HY1.out; have hq2 := pw_cell_below (below_step BW.out hb) HX2.out; have HB2 := Aside0.mk (below_step BW.out hb); clear hb) | (go_at_call 83; refine (HCM.out _ HB2.out).mono ?_; rintro e w3 ⟨rfl, hd⟩; have hb := hd.below; clear hd))
           go_ret
           rw [ER.out]
           exact ⟨rfl, below_step HB0.out (below_step HB2.out hb)⟩
       ·have hne : ((x.length : Int) != (l0_0.length : Int)) = true := by simp; omega
        have er : relB l0_0 l0_1 = false := relB_no kk hlt (by unfold relOk tupB; rw [← HX.out, decide_eq_false hlen]; simp)
        have ER := Aside0.mk er
        clear er hlen hC1
        go_wp2
        go_ret
        rw [ER.out]
        exact ⟨rfl, below_step HB0.out BW.out⟩
      ·obtain rfl : kk = l0_1.length := by omega
       have hltz : ¬ (l0_1.length : Int) < (l0_1.length : Int) := by omega
       go_wp2
       go_ret
       rw [relB_yes h6 HRIS.out h60 AB.out]
       exact ⟨rfl, below_step HB0.out BW.out⟩
    ·have h60z : (60 : Int) < (l0_1.length : Int) := by omega
     have er : relB l0_0 l0_1 = false := by unfold relB; rw [decide_eq_false h60]; simp
     rw [er]
     clear er hris hW1
     go_enter Try.func80, Try.ntmps80
     go_wp2_with (go_at_call 93; refine (HRI.out _ (by rw [HW1.out]; exact Below.refl _ _)).mono ?_; rintro e w2 ⟨rfl, hd⟩; have hbd : Below W1.heap.size W1 w2 := (by have := hd.below; rw [← HW1.out] at this; exact this); have hz0 := pw_cell_below hbd HY0.out; have hz1 := pw_cell_below hbd HY1.out; clear hd)
     go_ret
     exact ⟨rfl, below_step HB0.out hbd⟩
  ·have h6z : (6 : Int) < (l0_0.length : Int) := by omega
   have er : relB l0_0 l0_1 = false := by unfold relB; rw [decide_eq_false h6]; simp
   rw [er]
   clear er
   go_enter Try.func80, Try.ntmps80
   go_wp2
   go_ret
   refine ⟨rfl, ?_⟩
   rw [← hW1]
   exact HB0.out
 ·rw [if_neg hb] at h
  cases h

/-! ### impl_areAlike: function 51 -/
def impl_areAlike.f (k : Nat) (l0_0 : List Int) (l0_1 : List (List Int)) (l1_0 : List Int) (l1_1 : List (List Int)) : Option (Bool) := (impl_GoodRelation.f l0_0 l0_1).bind fun t270 => (if t270 = true then ((impl_GoodRelation.f l1_0 l1_1).bind fun t271 => (if t271 = true then ((slices_Equal_int_int.f k l0_0 l1_0).bind fun t272 => (some t272)) else (some false))) else (some false))
theorem impl_areAlike.mono : ∀ a0 a1 a2 a3 k, LeO (impl_areAlike.f k a0 a1 a2 a3) (impl_areAlike.f (k + 1) a0 a1 a2 a3) := by
 intro a0 a1 a2 a3 k
 unfold impl_areAlike.f
 repeat' first
   | (with_reducible exact slices_Equal_int_int.mono _ _ _)
   | (with_reducible exact LeO.refl _)
   | (with_reducible exact LeO.none _)
   | (with_reducible refine LeO.ite ?_ ?_)
   | (with_reducible refine LeO.bind ?_ (fun _ => ?_))
   | exact slices_Equal_int_int.mono _ _ _
   | exact LeO.none _
   | refine LeO.ite ?_ ?_
   | refine LeO.bind ?_ (fun _ => ?_)
set_option maxHeartbeats 8000000 in
set_option maxRecDepth 100000 in
theorem impl_areAlike.calls (k : Nat) (A0_0 : Option Addr) (c0_0 : Nat) (l0_0 : List Int) (A0_1 : Option Addr) (c0_1 : Nat) (l0_1 : List (List Int)) (A1_0 : Option Addr) (c1_0 : Nat) (l1_0 : List Int) (A1_1 : Option Addr) (c1_1 : Nat) (l1_1 : List (List Int)) (r : Bool) (w : World) (hr0_0 : Kd.C (Kd.int .i64) w A0_0 l0_0.length l0_0) (hc0_0 : l0_0.length ≤ c0_0) (hr0_1 : Kd.C (Kd.slice 3 (Kd.int .i64)) w A0_1 l0_1.length l0_1) (hc0_1 : l0_1.length ≤ c0_1) (hr1_0 : Kd.C (Kd.int .i64) w A1_0 l1_0.length l1_0) (hc1_0 : l1_0.length ≤ c1_0) (hr1_1 : Kd.C (Kd.slice 3 (Kd.int .i64)) w A1_1 l1_1.length l1_1) (hc1_1 : l1_1.length ≤ c1_1) (h : impl_areAlike.f k l0_0 l0_1 l1_0 l1_1 = some r) :
  Calls Try.prog 51 #[.agg #[.slice A0_0 l0_0.length c0_0, .slice A0_1 l0_1.length c0_1], .agg #[.slice A1_0 l1_0.length c1_0, .slice A1_1 l1_1.length c1_1]] w fun e w' => e = .returned (.bool r) ∧ Below w.heap.size w w' := by
 have hu44 := Try.underlying44
 have HR0_0 := Aside0.mk hr0_0
 have HC0_0 := Aside0.mk hc0_0
 clear hr0_0 hc0_0
 have HR0_1 := Aside0.mk hr0_1
 have HC0_1 := Aside0.mk hc0_1
 clear hr0_1 hc0_1
 have HR1_0 := Aside0.mk hr1_0
 have HC1_0 := Aside0.mk hc1_0
 clear hr1_0 hc1_0
 have HR1_1 := Aside0.mk hr1_1
 have HC1_1 := Aside0.mk hc1_1
 clear hr1_1 hc1_1
 have HB := Aside0.mk (Below.refl w.heap.size w)
 have H : ((impl_GoodRelation.f l0_0 l0_1).bind fun t270 => (if t270 = true then ((impl_GoodRelation.f l1_0 l1_1).bind fun t271 => (if t271 = true then ((slices_Equal_int_int.f k l0_0 l1_0).bind fun t272 => (some t272)) else (some false))) else (some false))) = some r := h
 clear h
 replace H := Option.bind_eq_some_iff.mp H
 obtain ⟨t270, A30, H⟩ := H
 replace H : (if t270 = true then ((impl_GoodRelation.f l1_0 l1_1).bind fun t271 => (if t271 = true then ((slices_Equal_int_int.f k l0_0 l1_0).bind fun t272 => (some t272)) else (some false))) else (some false)) = some r := H
 have A3 := Aside0.mk A30
 clear A30
 by_cases c4 : t270 = true
 ·subst c4
  have H1 : ((impl_GoodRelation.f l1_0 l1_1).bind fun t271 => (if t271 = true then ((slices_Equal_int_int.f k l0_0 l1_0).bind fun t272 => (some t272)) else (some false))) = some r := by rw [if_pos rfl] at H; exact H
  clear H
  have H := H1
  clear H1
  replace H := Option.bind_eq_some_iff.mp H
  obtain ⟨t271, A50, H⟩ := H
  replace H : (if t271 = true then ((slices_Equal_int_int.f k l0_0 l1_0).bind fun t272 => (some t272)) else (some false)) = some r := H
  have A5 := Aside0.mk A50
  clear A50
  by_cases c6 : t271 = true
  ·subst c6
   have H1 : ((slices_Equal_int_int.f k l0_0 l1_0).bind fun t272 => (some t272)) = some r := by rw [if_pos rfl] at H; exact H
   clear H
   have H := H1
   clear H1
   replace H := Option.bind_eq_some_iff.mp H
   obtain ⟨t272, A70, H⟩ := H
   replace H : (some t272) = some r := H
   have A7 := Aside0.mk A70
   clear A70
   obtain rfl := Option.some.inj H
   go_enter Try.func51, Try.ntmps51
   go_wp2_with (first | ((with_reducible refine gate_dst (N := 2) rfl ?_); refine box_event ?hg (N := 2) ?hd (cs := #[.slice A0_0 l0_0.length c0_0, .slice A0_1 l0_1.length c0_1]) (t := 44) ?hr ?_; (case hd => rfl); (case hg => rfl); (case hr => first | (go_simp; done) | (go_simp; rfl)); intro gb268 hg w8 hbox hb; have n0_ := Aside0.mk (below_step (by repeat first | exact HB.out | apply below_alloc | apply pw_below_drewN | apply below_drew1) hb); have n1_ := Aside0.mk (hbox); have n2_ := Aside0.mk ((by rw [hg]; exact (below_size (by repeat first | exact HB.out | apply below_alloc | apply pw_below_drewN | apply below_drew1)) : w.heap.size ≤ gb268)); have n3_ := Aside0.mk ((by rw [hg]; exact (below_size (by repeat first | exact HB.out | apply below_alloc | apply pw_below_drewN | apply below_drew1)) : w.heap.size ≤ gb268)); clear HB; have HB := n0_; have BK268 := n1_; have GW268 := n2_; have GE268 := n3_; clear n0_ n1_ n2_ n3_; clear hb hbox hg) | ((with_reducible refine gate_dst (N := 3) rfl ?_); refine box_event ?hg (N := 3) ?hd (cs := #[.slice A1_0 l1_0.length c1_0, .slice A1_1 l1_1.length c1_1]) (t := 44) ?hr ?_; (case hd => rfl); (case hg => rfl); (case hr => first | (go_simp; done) | (go_simp; rfl)); intro gb269 hg w9 hbox hb; have n0_ := Aside0.mk (blk_below (g := gb268) (o := .cells #[.slice A0_0 l0_0.length c0_0, .slice A0_1 l0_1.length c0_1] 44 (0, 0)) (by (with_reducible repeat (first | refine blk_drewN ?_ _ | refine blk_drew ?_ | refine blk_alloc ?_ _)); exact BK268.out) hb); have n1_ := Aside0.mk (below_step (by repeat (first | (with_reducible first | exact HB.out | apply below_alloc | apply pw_below_drewN | apply below_drew1 | refine below_set ?_ GE268.out) | exact HB.out)) hb); have n2_ := Aside0.mk (hbox); have n3_ := Aside0.mk ((by rw [hg]; exact (below_size (by repeat (first | (with_reducible first | exact HB.out | apply below_alloc | apply pw_below_drewN | apply below_drew1 | refine below_set ?_ GE268.out) | exact HB.out))) : w.heap.size ≤ gb269)); have n4_ := Aside0.mk ((by rw [hg]; exact (below_size (by repeat (first | (with_reducible first | exact HB.out | apply below_alloc | apply pw_below_drewN | apply below_drew1 | refine below_set ?_ GE268.out) | exact HB.out))) : w.heap.size ≤ gb269)); have n5_ := Aside0.mk ((by rw [hg]; exact Nat.ne_of_lt (blk_lt (g := gb268) (o := .cells #[.slice A0_0 l0_0.length c0_0, .slice A0_1 l0_1.length c0_1] 44 (0, 0)) (by (with_reducible repeat (first | refine blk_drewN ?_ _ | refine blk_drew ?_ | refine blk_alloc ?_ _)); exact BK268.out)) : gb268 ≠ gb269)); have n6_ := Aside0.mk ((by rw [hg]; exact Nat.ne_of_gt (blk_lt (g := gb268) (o := .cells #[.slice A0_0 l0_0.length c0_0, .slice A0_1 l0_1.length c0_1] 44 (0, 0)) (by (with_reducible repeat (first | refine blk_drewN ?_ _ | refine blk_drew ?_ | refine blk_alloc ?_ _)); exact BK268.out)) : gb269 ≠ gb268)); clear BK268; clear HB; have BK268 := n0_; have HB := n1_; have BK269 := n2_; have GW269 := n3_; have GE269 := n4_; have NB268_269 := n5_; have NB269_268 := n6_; clear n0_ n1_ n2_ n3_ n4_ n5_ n6_; clear hb hbox hg; have hnb10 := NB268_269.out; have hnc10 := NB269_268.out; have hcz11_0 : w9.cell? ⟨gb268, 0, none⟩ = some (.slice A0_0 l0_0.length c0_0) := (blk_cell BK268.out 0).trans rfl; have hcz11_1 : w9.cell? ⟨gb268, 1, none⟩ = some (.slice A0_1 l0_1.length c0_1) := (blk_cell BK268.out 1).trans rfl; have hfz11_0 := blk_frozen BK268.out 0; have hfz11_1 := blk_frozen BK268.out 1) | ((with_reducible refine gate_callee (f := 80) rfl ?_); refine goesL_ (some 6) rfl rfl Try.func80 (by kernel_rfl) rfl #[.agg #[.slice A0_0 l0_0.length c0_0, .slice A0_1 l0_1.length c0_1]] rfl (by (try simp only [List.map_toArray, List.map_cons, List.map_nil]); first | done | rfl | (simp only [List.length_drop, List.length_take]; rfl)) ?_; (with_reducible refine (impl_GoodRelation.calls _ _ l0_0 _ _ l0_1 true _ ?side1 ?side2 ?side3 ?side4 A3.out).mono ?_); (case side1 => repeat (first | exact (Kd.C_below HR0_0.out HB.out) | exact HR0_0.out | (with_reducible refine Kd.C_alloc ?_ _) | (with_reducible refine Kd.C_drewN ?_ _) | (with_reducible refine Kd.C_drew ?_))); (case side2 => exact HC0_0.out); (case side3 => repeat (first | exact (Kd.C_below HR0_1.out HB.out) | exact HR0_1.out | (with_reducible refine Kd.C_alloc ?_ _) | (with_reducible refine Kd.C_drewN ?_ _) | (with_reducible refine Kd.C_drew ?_))); (case side4 => exact HC0_1.out); rintro e w12 ⟨rfl, hb⟩; refine ⟨_, rfl, ?_⟩; have n0_ := Aside0.mk (blk_below (g := gb268) (o := .cells #[.slice A0_0 l0_0.length c0_0, .slice A0_1 l0_1.length c0_1] 44 (0, 0)) (by (with_reducible repeat (first | refine blk_drewN ?_ _ | refine blk_drew ?_ | refine blk_alloc ?_ _)); exact BK268.out) hb); have n1_ := Aside0.mk (blk_below (g := gb269) (o := .cells #[.slice A1_0 l1_0.length c1_0, .slice A1_1 l1_1.length c1_1] 44 (0, 0)) (by (with_reducible repeat (first | refine blk_drewN ?_ _ | refine blk_drew ?_ | refine blk_alloc ?_ _)); exact BK269.out) hb); have n2_ := Aside0.mk (below_step (by repeat (first | (with_reducible first | exact HB.out | apply below_alloc | apply pw_below_drewN | apply below_drew1 | refine below_set ?_ GE268.out | refine below_set ?_ GE269.out) | exact HB.out)) hb); clear BK268; clear BK269; clear HB; have BK268 := n0_; have BK269 := n1_; have HB := n2_; clear n0_ n1_ n2_; (try clear hb); (try clear hb2); (try clear hk); (try clear hi); have hcz13_0 : w12.cell? ⟨gb269, 0, none⟩ = some (.slice A1_0 l1_0.length c1_0) := (blk_cell BK269.out 0).trans rfl; have hcz13_1 : w12.cell? ⟨gb269, 1, none⟩ = some (.slice A1_1 l1_1.length c1_1) := (blk_cell BK269.out 1).trans rfl; have hfz13_0 := blk_frozen BK269.out 0; have hfz13_1 := blk_frozen BK269.out 1) | (go_at_call 80; (with_reducible refine (impl_GoodRelation.calls _ _ l1_0 _ _ l1_1 true _ ?side1 ?side2 ?side3 ?side4 A5.out).mono ?_); (case side1 => repeat (first | exact (Kd.C_below HR1_0.out HB.out) | exact HR1_0.out | (with_reducible refine Kd.C_alloc ?_ _) | (with_reducible refine Kd.C_drewN ?_ _) | (with_reducible refine Kd.C_drew ?_))); (case side2 => exact HC1_0.out); (case side3 => repeat (first | exact (Kd.C_below HR1_1.out HB.out) | exact HR1_1.out | (with_reducible refine Kd.C_alloc ?_ _) | (with_reducible refine Kd.C_drewN ?_ _) | (with_reducible refine Kd.C_drew ?_))); (case side4 => exact HC1_1.out); rintro e w14 ⟨rfl, hb⟩; have n0_ := Aside0.mk (blk_below (g := gb268) (o := .cells #[.slice A0_0 l0_0.length c0_0, .slice A0_1 l0_1.length c0_1] 44 (0, 0)) (by (with_reducible repeat (first | refine blk_drewN ?_ _ | refine blk_drew ?_ | refine blk_alloc ?_ _)); exact BK268.out) hb); have n1_ := Aside0.mk (blk_below (g := gb269) (o := .cells #[.slice A1_0 l1_0.length c1_0, .slice A1_1 l1_1.length c1_1] 44 (0, 0)) (by (with_reducible repeat (first | refine blk_drewN ?_ _ | refine blk_drew ?_ | refine blk_alloc ?_ _)); exact BK269.out) hb); have n2_ := Aside0.mk (below_step (by repeat (first | (with_reducible first | exact HB.out | apply below_alloc | apply pw_below_drewN | apply below_drew1 | refine below_set ?_ GE268.out | refine below_set ?_ GE269.out) | exact HB.out)) hb); clear BK268; clear BK269; clear HB; have BK268 := n0_; have BK269 := n1_; have HB := n2_; clear n0_ n1_ n2_; (try clear hb); (try clear hb2); (try clear hk); (try clear hi); have hcz15_0 : w14.cell? ⟨gb268, 0, none⟩ = some (.slice A0_0 l0_0.length c0_0) := (blk_cell BK268.out 0).trans rfl; have hcz15_1 : w14.cell? ⟨gb268, 1, none⟩ = some (.slice A0_1 l0_1.length c0_1) := (blk_cell BK268.out 1).trans rfl; have hfz15_0 := blk_frozen BK268.out 0; have hfz15_1 := blk_frozen BK268.out 1; have hcz16_0 : w14.cell? ⟨gb269, 0, none⟩ = some (.slice A1_0 l1_0.length c1_0) := (blk_cell BK269.out 0).trans rfl; have hcz16_1 : w14.cell? ⟨gb269, 1, none⟩ = some (.slice A1_1 l1_1.length c1_1) := (blk_cell BK269.out 1).trans rfl; have hfz16_0 := blk_frozen BK269.out 0; have hfz16_1 := blk_frozen BK269.out 1) | (go_at_call 66; (with_reducible refine (slices_Equal_int_int.calls k _ _ l0_0 _ _ l1_0 t272 _ ?side1 ?side2 ?side3 ?side4 A7.out).mono ?_); (case side1 => repeat (first | exact (Kd.C_below HR0_0.out HB.out) | exact HR0_0.out | (with_reducible refine Kd.C_alloc ?_ _) | (with_reducible refine Kd.C_drewN ?_ _) | (with_reducible refine Kd.C_drew ?_))); (case side2 => exact HC0_0.out); (case side3 => repeat (first | exact (Kd.C_below HR1_0.out HB.out) | exact HR1_0.out | (with_reducible refine Kd.C_alloc ?_ _) | (with_reducible refine Kd.C_drewN ?_ _) | (with_reducible refine Kd.C_drew ?_))); (case side4 => exact HC1_0.out); rintro e w' ⟨rfl, ⟨nd, rfl⟩⟩))
   go_ret
   exact ⟨by first | rfl | (simp [errW_none, errW_some] <;> rfl) | (simp [*, errW_none, errW_some] <;> rfl), by repeat (first | (with_reducible first | exact HB.out | apply below_alloc | apply pw_below_drewN | apply below_drew1 | refine below_set ?_ GE268.out | refine below_set ?_ GE269.out) | exact HB.out)⟩
  ·replace c6 := Bool.eq_false_iff.mpr c6
   subst c6
   have H1 : (some false) = some r := by rw [if_neg (show ¬ (false = true) by decide)] at H; exact H
   clear H
   have H := H1
   clear H1
   obtain rfl := Option.some.inj H
   go_enter Try.func51, Try.ntmps51
   go_wp2_with (first | ((with_reducible refine gate_dst (N := 2) rfl ?_); refine box_event ?hg (N := 2) ?hd (cs := #[.slice A0_0 l0_0.length c0_0, .slice A0_1 l0_1.length c0_1]) (t := 44) ?hr ?_; (case hd => rfl); (case hg => rfl); (case hr => first | (go_simp; done) | (go_simp; rfl)); intro gb268 hg w17 hbox hb; have n0_ := Aside0.mk (below_step (by repeat first | exact HB.out | apply below_alloc | apply pw_below_drewN | apply below_drew1) hb); have n1_ := Aside0.mk (hbox); have n2_ := Aside0.mk ((by rw [hg]; exact (below_size (by repeat first | exact HB.out | apply below_alloc | apply pw_below_drewN | apply below_drew1)) : w.heap.size ≤ gb268)); have n3_ := Aside0.mk ((by rw [hg]; exact (below_size (by repeat first | exact HB.out | apply below_alloc | apply pw_below_drewN | apply below_drew1)) : w.heap.size ≤ gb268)); clear HB; have HB := n0_; have BK268 := n1_; have GW268 := n2_; have GE268 := n3_; clear n0_ n1_ n2_ n3_; clear hb hbox hg) | ((with_reducible refine gate_dst (N := 3) rfl ?_); refine box_event ?hg (N := 3) ?hd (cs := #[.slice A1_0 l1_0.length c1_0, .slice A1_1 l1_1.length c1_1]) (t := 44) ?hr ?_; (case hd => rfl); (case hg => rfl); (case hr => first | (go_simp; done) | (go_simp; rfl)); intro gb269 hg w18 hbox hb; have n0_ := Aside0.mk (blk_below (g := gb268) (o := .cells #[.slice A0_0 l0_0.length c0_0, .slice A0_1 l0_1.length c0_1] 44 (0, 0)) (by (with_reducible repeat (first | refine blk_drewN ?_ _ | refine blk_drew ?_ | refine blk_alloc ?_ _)); exact BK268.out) hb); have n1_ := Aside0.mk (below_step (by repeat (first | (with_reducible first | exact HB.out | apply below_alloc | apply pw_below_drewN | apply below_drew1 | refine below_set ?_ GE268.out) | exact HB.out)) hb); have n2_ := Aside0.mk (hbox); have n3_ := Aside0.mk ((by rw [hg]; exact (below_size (by repeat (first | (with_reducible first | exact HB.out | apply below_alloc | apply pw_below_drewN | apply below_drew1 | refine below_set ?_ GE268.out) | exact HB.out))) : w.heap.size ≤ gb269)); have n4_ := Aside0.mk ((by rw [hg]; exact (below_size (by repeat (first | (with_reducible first | exact HB.out | apply below_alloc | apply pw_below_drewN | apply below_drew1 | refine below_set ?_ GE268.out) | exact HB.out))) : w.heap.size ≤ gb269)); have n5_ := Aside0.mk ((by rw [hg]; exact Nat.ne_of_lt (blk_lt (g := gb268) (o := .cells #[.slice A0_0 l0_0.length c0_0, .slice A0_1 l0_1.length c0_1] 44 (0, 0)) (by (with_reducible repeat (first | refine blk_drewN ?_ _ | refine blk_drew ?_ | refine blk_alloc ?_ _)); exact BK268.out)) : gb268 ≠ gb269)); have n6_ := Aside0.mk ((by rw [hg]; exact Nat.ne_of_gt (blk_lt (g := gb268) (o := .cells #[.slice A0_0 l0_0.length c0_0, .slice A0_1 l0_1.length c0_1] 44 (0, 0)) (by (with_reducible repeat (first | refine blk_drewN ?_ _ | refine blk_drew ?_ | refine blk_alloc ?_ _)); exact BK268.out)) : gb269 ≠ gb268)); clear BK268; clear HB; have BK268 := n0_; have HB := n1_; have BK269 := n2_; have GW269 := n3_; have GE269 := n4_; have NB268_269 := n5_; have NB269_268 := n6_; clear n0_ n1_ n2_ n3_ n4_ n5_ n6_; clear hb hbox hg; have hnb19 := NB268_269.out; have hnc19 := NB269_268.out; have hcz20_0 : w18.cell? ⟨gb268, 0, none⟩ = some (.slice A0_0 l0_0.length c0_0) := (blk_cell BK268.out 0).trans rfl; have hcz20_1 : w18.cell? ⟨gb268, 1, none⟩ = some (.slice A0_1 l0_1.length c0_1) := (blk_cell BK268.out 1).trans rfl; have hfz20_0 := blk_frozen BK268.out 0; have hfz20_1 := blk_frozen BK268.out 1) | ((with_reducible refine gate_callee (f := 80) rfl ?_); refine goesL_ (some 6) rfl rfl Try.func80 (by kernel_rfl) rfl #[.agg #[.slice A0_0 l0_0.length c0_0, .slice A0_1 l0_1.length c0_1]] rfl (by (try simp only [List.map_toArray, List.map_cons, List.map_nil]); first | done | rfl | (simp only [List.length_drop, List.length_take]; rfl)) ?_; (with_reducible refine (impl_GoodRelation.calls _ _ l0_0 _ _ l0_1 true _ ?side1 ?side2 ?side3 ?side4 A3.out).mono ?_); (case side1 => repeat (first | exact (Kd.C_below HR0_0.out HB.out) | exact HR0_0.out | (with_reducible refine Kd.C_alloc ?_ _) | (with_reducible refine Kd.C_drewN ?_ _) | (with_reducible refine Kd.C_drew ?_))); (case side2 => exact HC0_0.out); (case side3 => repeat (first | exact (Kd.C_below HR0_1.out HB.out) | exact HR0_1.out | (with_reducible refine Kd.C_alloc ?_ _) | (with_reducible refine Kd.C_drewN ?_ _) | (with_reducible refine Kd.C_drew ?_))); (case side4 => exact HC0_1.out); rintro e w21 ⟨rfl, hb⟩; refine ⟨_, rfl, ?_⟩; have n0_ := Aside0.mk (blk_below (g := gb268) (o := .cells #[.slice A0_0 l0_0.length c0_0, .slice A0_1 l0_1.length c0_1] 44 (0, 0)) (by (with_reducible repeat (first | refine blk_drewN ?_ _ | refine blk_drew ?_ | refine blk_alloc ?_ _)); exact BK268.out) hb); have n1_ := Aside0.mk (blk_below (g := gb269) (o := .cells #[.slice A1_0 l1_0.length c1_0, .slice A1_1 l1_1.length c1_1] 44 (0, 0)) (by (with_reducible repeat (first | refine blk_drewN ?_ _ | refine blk_drew ?_ | refine blk_alloc ?_ _)); exact BK269.out) hb); have n2_ := Aside0.mk (below_step (by repeat (first | (with_reducible first | exact HB.out | apply below_alloc | apply pw_below_drewN | apply below_drew1 | refine below_set ?_ GE268.out | refine below_set ?_ GE269.out) | exact HB.out)) hb); clear BK268; clear BK269; clear HB; have BK268 := n0_; have BK269 := n1_; have HB := n2_; clear n0_ n1_ n2_; (try clear hb); (try clear hb2); (try clear hk); (try clear hi); have hcz22_0 : w21.cell? ⟨gb269, 0, none⟩ = some (.slice A1_0 l1_0.length c1_0) := (blk_cell BK269.out 0).trans rfl; have hcz22_1 : w21.cell? ⟨gb269, 1, none⟩ = some (.slice A1_1 l1_1.length c1_1) := (blk_cell BK269.out 1).trans rfl; have hfz22_0 := blk_frozen BK269.out 0; have hfz22_1 := blk_frozen BK269.out 1) | (go_at_call 80; (with_reducible refine (impl_GoodRelation.calls _ _ l1_0 _ _ l1_1 false _ ?side1 ?side2 ?side3 ?side4 A5.out).mono ?_); (case side1 => repeat (first | exact (Kd.C_below HR1_0.out HB.out) | exact HR1_0.out | (with_reducible refine Kd.C_alloc ?_ _) | (with_reducible refine Kd.C_drewN ?_ _) | (with_reducible refine Kd.C_drew ?_))); (case side2 => exact HC1_0.out); (case side3 => repeat (first | exact (Kd.C_below HR1_1.out HB.out) | exact HR1_1.out | (with_reducible refine Kd.C_alloc ?_ _) | (with_reducible refine Kd.C_drewN ?_ _) | (with_reducible refine Kd.C_drew ?_))); (case side4 => exact HC1_1.out); rintro e w23 ⟨rfl, hb⟩; have n0_ := Aside0.mk (blk_below (g := gb268) (o := .cells #[.slice A0_0 l0_0.length c0_0, .slice A0_1 l0_1.length c0_1] 44 (0, 0)) (by (with_reducible repeat (first | refine blk_drewN ?_ _ | refine blk_drew ?_ | refine blk_alloc ?_ _)); exact BK268.out) hb); have n1_ := Aside0.mk (blk_below (g := gb269) (o := .cells #[.slice A1_0 l1_0.length c1_0, .slice A1_1 l1_1.length c1_1] 44 (0, 0)) (by (with_reducible repeat (first | refine blk_drewN ?_ _ | refine blk_drew ?_ | refine blk_alloc ?_ _)); exact BK269.out) hb); have n2_ := Aside0.mk (below_step (by repeat (first | (with_reducible first | exact HB.out | apply below_alloc | apply pw_below_drewN | apply below_drew1 | refine below_set ?_ GE268.out | refine below_set ?_ GE269.out) | exact HB.out)) hb); clear BK268; clear BK269; clear HB; have BK268 := n0_; have BK269 := n1_; have HB := n2_; clear n0_ n1_ n2_; (try clear hb); (try clear hb2); (try clear hk); (try clear hi)))
   go_ret
   exact ⟨by first | rfl | (simp [errW_none, errW_some] <;> rfl) | (simp [*, errW_none, errW_some] <;> rfl), by repeat (first | (with_reducible first | exact HB.out | apply below_alloc | apply pw_below_drewN | apply below_drew1 | refine below_set ?_ GE268.out | refine below_set ?_ GE269.out) | exact HB.out)⟩
 ·replace c4 := Bool.eq_false_iff.mpr c4
  subst c4
  have H1 : (some false) = some r := by rw [if_neg (show ¬ (false = true) by decide)] at H; exact H
  clear H
  have H := H1
  clear H1
  obtain rfl := Option.some.inj H
  go_enter Try.func51, Try.ntmps51
  go_wp2_with (first | ((with_reducible refine gate_dst (N := 2) rfl ?_); refine box_event ?hg (N := 2) ?hd (cs := #[.slice A0_0 l0_0.length c0_0, .slice A0_1 l0_1.length c0_1]) (t := 44) ?hr ?_; (case hd => rfl); (case hg => rfl); (case hr => first | (go_simp; done) | (go_simp; rfl)); intro gb268 hg w24 hbox hb; have n0_ := Aside0.mk (below_step (by repeat first | exact HB.out | apply below_alloc | apply pw_below_drewN | apply below_drew1) hb); have n1_ := Aside0.mk (hbox); have n2_ := Aside0.mk ((by rw [hg]; exact (below_size (by repeat first | exact HB.out | apply below_alloc | apply pw_below_drewN | apply below_drew1)) : w.heap.size ≤ gb268)); have n3_ := Aside0.mk ((by rw [hg]; exact (below_size (by repeat first | exact HB.out | apply below_alloc | apply pw_below_drewN | apply below_drew1)) : w.heap.size ≤ gb268)); clear HB; have HB := n0_; have BK268 := n1_; have GW268 := n2_; have GE268 := n3_; clear n0_ n1_ n2_ n3_; clear hb hbox hg) | ((with_reducible refine gate_dst (N := 3) rfl ?_); refine box_event ?hg (N := 3) ?hd (cs := #[.slice A1_0 l1_0.length c1_0, .slice A1_1 l1_1.length c1_1]) (t := 44) ?hr ?_; (case hd => rfl); (case hg => rfl); (case hr => first | (go_simp; done) | (go_simp; rfl)); intro gb269 hg w25 hbox hb; have n0_ := Aside0.mk (blk_below (g := gb268) (o := .cells #[.slice A0_0 l0_0.length c0_0, .slice A0_1 l0_1.length c0_1] 44 (0, 0)) (by (with_reducible repeat (first | refine blk_drewN ?_ _ | refine blk_drew ?_ | refine blk_alloc ?_ _)); exact BK268.out) hb); have n1_ := Aside0.mk (below_step (by repeat (first | (with_reducible first | exact HB.out | apply below_alloc | apply pw_below_drewN | apply below_drew1 | refine below_set ?_ GE268.out) | exact HB.out)) hb); have n2_ := Aside0.mk (hbox); have n3_ := Aside0.mk ((by rw [hg]; exact (below_size (by repeat (first | (with_reducible first | exact HB.out | apply below_alloc | apply pw_below_drewN | apply below_drew1 | refine below_set ?_ GE268.out) | exact HB.out))) : w.heap.size ≤ gb269)); have n4_ := Aside0.mk ((by rw [hg]; exact (below_size (by repeat (first | (with_reducible first | exact HB.out | apply below_alloc | apply pw_below_drewN | apply below_drew1 | refine below_set ?_ GE268.out) | exact HB.out))) : w.heap.size ≤ gb269)); have n5_ := Aside0.mk ((by rw [hg]; exact Nat.ne_of_lt (blk_lt (g := gb268) (o := .cells #[.slice A0_0 l0_0.length c0_0, .slice A0_1 l0_1.length c0_1] 44 (0, 0)) (by (with_reducible repeat (first | refine blk_drewN ?_ _ | refine blk_drew ?_ | refine blk_alloc ?_ _)); exact BK268.out)) : gb268 ≠ gb269)); have n6_ := Aside0.mk ((by rw [hg]; exact Nat.ne_of_gt (blk_lt (g := gb268) (o := .cells #[.slice A0_0 l0_0.length c0_0, .slice A0_1 l0_1.length c0_1] 44 (0, 0)) (by (with_reducible repeat (first | refine blk_drewN ?_ _ | refine blk_drew ?_ | refine blk_alloc ?_ _)); exact BK268.out)) : gb269 ≠ gb268)); clear BK268; clear HB; have BK268 := n0_; have HB := n1_; have BK269 := n2_; have GW269 := n3_; have GE269 := n4_; have NB268_269 := n5_; have NB269_268 := n6_; clear n0_ n1_ n2_ n3_ n4_ n5_ n6_; clear hb hbox hg; have hnb26 := NB268_269.out; have hnc26 := NB269_268.out; have hcz27_0 : w25.cell? ⟨gb268, 0, none⟩ = some (.slice A0_0 l0_0.length c0_0) := (blk_cell BK268.out 0).trans rfl; have hcz27_1 : w25.cell? ⟨gb268, 1, none⟩ = some (.slice A0_1 l0_1.length c0_1) := (blk_cell BK268.out 1).trans rfl; have hfz27_0 := blk_frozen BK268.out 0; have hfz27_1 := blk_frozen BK268.out 1) | ((with_reducible refine gate_callee (f := 80) rfl ?_); refine goesL_ (some 6) rfl rfl Try.func80 (by kernel_rfl) rfl #[.agg #[.slice A0_0 l0_0.length c0_0, .slice A0_1 l0_1.length c0_1]] rfl (by (try simp only [List.map_toArray, List.map_cons, List.map_nil]); first | done | rfl | (simp only [List.length_drop, List.length_take]; rfl)) ?_; (with_reducible refine (impl_GoodRelation.calls _ _ l0_0 _ _ l0_1 false _ ?side1 ?side2 ?side3 ?side4 A3.out).mono ?_); (case side1 => repeat (first | exact (Kd.C_below HR0_0.out HB.out) | exact HR0_0.out | (with_reducible refine Kd.C_alloc ?_ _) | (with_reducible refine Kd.C_drewN ?_ _) | (with_reducible refine Kd.C_drew ?_))); (case side2 => exact HC0_0.out); (case side3 => repeat (first | exact (Kd.C_below HR0_1.out HB.out) | exact HR0_1.out | (with_reducible refine Kd.C_alloc ?_ _) | (with_reducible refine Kd.C_drewN ?_ _) | (with_reducible refine Kd.C_drew ?_))); (case side4 => exact HC0_1.out); rintro e w28 ⟨rfl, hb⟩; refine ⟨_, rfl, ?_⟩; have n0_ := Aside0.mk (blk_below (g := gb268) (o := .cells #[.slice A0_0 l0_0.length c0_0, .slice A0_1 l0_1.length c0_1] 44 (0, 0)) (by (with_reducible repeat (first | refine blk_drewN ?_ _ | refine blk_drew ?_ | refine blk_alloc ?_ _)); exact BK268.out) hb); have n1_ := Aside0.mk (blk_below (g := gb269) (o := .cells #[.slice A1_0 l1_0.length c1_0, .slice A1_1 l1_1.length c1_1] 44 (0, 0)) (by (with_reducible repeat (first | refine blk_drewN ?_ _ | refine blk_drew ?_ | refine blk_alloc ?_ _)); exact BK269.out) hb); have n2_ := Aside0.mk (below_step (by repeat (first | (with_reducible first | exact HB.out | apply below_alloc | apply pw_below_drewN | apply below_drew1 | refine below_set ?_ GE268.out | refine below_set ?_ GE269.out) | exact HB.out)) hb); clear BK268; clear BK269; clear HB; have BK268 := n0_; have BK269 := n1_; have HB := n2_; clear n0_ n1_ n2_; (try clear hb); (try clear hb2); (try clear hk); (try clear hi)))
  go_ret
  exact ⟨by first | rfl | (simp [errW_none, errW_some] <;> rfl) | (simp [*, errW_none, errW_some] <;> rfl), by repeat (first | (with_reducible first | exact HB.out | apply below_alloc | apply pw_below_drewN | apply below_drew1 | refine below_set ?_ GE268.out | refine below_set ?_ GE269.out) | exact HB.out)⟩

/-! ### slices_Clone_int_int_81: function 81, by hand -/
theorem h_R_len {α : Type} {d : Kd α} {e base n c : Nat} {ok : Nat → Prop} {w : World} {A : Option Addr} {xs : List α} (h : d.R e w base ok (.slice A n c) xs) : n = xs.length ∧ n ≤ c := by
 obtain ⟨A', c', he, hl, _⟩ := Kd.R_reads h
 injection he with h1 h2 h3
 subst h2 h3
 exact ⟨rfl, hl⟩
/-- Many cells of a row of whole numbers are written. -/
theorem h_R_sets {e base n c g : Nat} {ok : Nat → Prop} : ∀ (vs : List Int) (o : Nat) (W : World) (xs : List Int), (Kd.int .i64).R e W base ok (.slice (some ⟨g, 0, none⟩) n c) xs → o + vs.length ≤ n →
  (Kd.int .i64).R e (W.setCells g o (vs.map (Value.int .i64))) base ok (.slice (some ⟨g, 0, none⟩) n c) (xs.take o ++ vs ++ xs.drop (o + vs.length))
 | [], o, W, xs, h, _ => by
  simp only [List.append_nil, List.length_nil, Nat.add_zero, List.take_append_drop]
  exact h
 | v :: vs, o, W, xs, h, hl => by
  have hx := (h_R_len h).1
  have h1 := Kd.R_putn h (o : Int) v
  rw [Int.toNat_natCast] at h1
  simp only [List.length_cons] at hl
  have h2 := h_R_sets vs (o + 1) _ _ h1 (by omega)
  have e1 : (xs.set o v).take (o + 1) = xs.take o ++ [v] := by
   rw [List.take_succ_eq_append_getElem (by rw [List.length_set]; omega), List.take_set_of_le (Nat.le_refl o)]
   simp
  have e2 : (xs.set o v).drop (o + 1 + vs.length) = xs.drop (o + (vs.length + 1)) := by
   rw [List.drop_set_of_lt (by omega), show o + 1 + vs.length = o + (vs.length + 1) by omega]
  rw [e1, e2] at h2
  have e3 : xs.take o ++ (v :: vs) ++ xs.drop (o + (v :: vs).length) = xs.take o ++ [v] ++ vs ++ xs.drop (o + (vs.length + 1)) := by
   simp
  rw [e3]
  exact h2
theorem h_below_sets {w W : World} {g : Nat} (hb : Below w.heap.size w W) (hg : w.heap.size ≤ g) : ∀ (vs : List Value) (o : Nat), Below w.heap.size w (W.setCells g o vs) := by
 intro vs
 induction vs generalizing W with
 | nil => intro o; exact hb
 | cons v vs ih => intro o; exact ih (hb.setCell (p := ⟨g, o, none⟩) hg v) (o + 1)
theorem h_kept_sets {w W : World} {S : Nat → Prop} {g : Nat} (hk : Kept w W S) (hg : S g ∨ w.heap.size ≤ g) : ∀ (vs : List Value) (o : Nat), Kept w (W.setCells g o vs) S := by
 intro vs
 induction vs generalizing W with
 | nil => intro o; exact hk
 | cons v vs ih => intro o; exact ih (hk.setCell (p := ⟨g, o, none⟩) hg v) (o + 1)
/-- A slice of whole numbers that is read, by its cells. -/
theorem h_ints_at {w : World} {A : Option Addr} {xs : List Int} (h : (Kd.int .i64).C w A xs.length xs) (h0 : 0 < xs.length) : ∃ b off, A = some ⟨b, off, none⟩ ∧ ∀ j, j < xs.length → w.cell? ⟨b, off + j, none⟩ = some (.int .i64 (xs.getD j 0)) := by
 obtain ⟨ad, rfl, hc⟩ := Kd.at_int h (0 : Int) (by omega) (by omega)
 obtain ⟨b, off, sp⟩ := ad
 have hs : sp = none := by
  cases sp with
  | none => rfl
  | some s =>
   unfold World.cell? at hc
   simp only [Int.toNat_zero, Addr.add, if_pos] at hc
   split at hc <;> simp_all
 subst hs
 refine ⟨b, off, rfl, fun j hj => ?_⟩
 obtain ⟨ad2, e2, hc2⟩ := Kd.at_int h (j : Int) (by omega) (by omega)
 injection e2 with e2
 subst e2
 rw [Int.toNat_natCast, Addr.add_lit] at hc2
 rw [hc2]
 simp [rd]
theorem h_below_grow (W : World) (os : Array Obj) : Below W.heap.size W (Go.Sort.grow W os) :=
 ⟨rfl, rfl, rfl, by show W.heap.size ≤ (W.heap ++ os).size; rw [Array.size_append]; omega, fun _ hj => Go.Sort.heap_grow_old W os hj⟩
theorem h_holds {e base n c g : Nat} {ok : Nat → Prop} {w : World} {xs : List Int} (h : (Kd.int .i64).R e w base ok (.slice (some ⟨g, 0, none⟩) n c) xs) : Go.Sort.Holds (Value.int .i64) w g 0 xs.toArray := fun j hj => by
 have hn := (h_R_len h).1
 have hj' : j < xs.length := by simpa using hj
 have h1 := Kd.R_celln 0 h (j : Int) (by omega) (by omega)
 rw [Int.toNat_natCast] at h1
 rw [Nat.zero_add]
 refine ⟨?_, h1.2⟩
 rw [h1.1, getElem!_pos xs.toArray j hj]
 simp [rdOf, List.getD, List.getElem?_eq_getElem hj']
/-- A row of whole numbers, all of which are written anew (some draws, some blocks behind it). -/
theorem h_put_all {e base n c g : Nat} {ok : Nat → Prop} {w : World} {xs ys : List Int} (h : (Kd.int .i64).R e w base ok (.slice (some ⟨g, 0, none⟩) n c) xs) (hl : ys.length = xs.length) (q : Nat) (os : Array Obj) :
  (Kd.int .i64).R e (Go.Sort.grow (Go.Sort.putRow (Value.int .i64) (Go.Sort.ahead w q) g 0 ys.toArray) os) base ok (.slice (some ⟨g, 0, none⟩) n c) ys ∧
   (∀ (w0 : World), Below w0.heap.size w0 w → w0.heap.size ≤ g → Below w0.heap.size w0 (Go.Sort.grow (Go.Sort.putRow (Value.int .i64) (Go.Sort.ahead w q) g 0 ys.toArray) os)) ∧
   (∀ S : Nat → Prop, S g → Kept w (Go.Sort.grow (Go.Sort.putRow (Value.int .i64) (Go.Sort.ahead w q) g 0 ys.toArray) os) S) := by
 have hn := (h_R_len h).1
 rw [Lib.putRow_eq_setCells (Value.int .i64) w g 0 xs.toArray ys q (h_holds h) (by simpa using hl)]
 refine ⟨?_, fun w0 hb hg => ?_, fun S hs => ?_⟩
 ·refine Kd.R_below ?_ (h_below_grow _ _)
  have h2 := h_R_sets ys 0 _ _ (Kd.R_drewN h q) (by omega)
  rw [List.take_zero, List.nil_append, Nat.zero_add, List.drop_of_length_le (by omega), List.append_nil] at h2
  exact h2
 ·exact below_then (h_below_sets (pw_below_drewN hb q) hg _ _) (h_below_sets (pw_below_drewN hb q) hg _ _).size (h_below_grow _ _)
 ·exact Kept.below (h_kept_sets (Kept.drewN (Kept.refl w S) q) (.inl hs) _ _) (h_below_grow _ _)
def slices_Clone_int_int_81.f (l0 : List Int) : Option (List Int) := if l0.length * 8 ≤ 140737488355328 then some l0 else none
set_option maxHeartbeats 8000000 in
set_option maxRecDepth 100000 in
theorem slices_Clone_int_int_81.calls (A0 : Option Addr) (c0 : Nat) (l0 : List Int) (r : List Int) (w : World) (hr0 : Kd.C (Kd.int .i64) w A0 l0.length l0) (hc0 : l0.length ≤ c0) (h : slices_Clone_int_int_81.f l0 = some r) :
  Calls Try.prog 81 #[.slice A0 l0.length c0] w fun e w' => ∃ v0_ : Value, e = .returned (v0_) ∧ Kd.R (Kd.int .i64) 3 w' w.heap.size (fun _ => True) v0_ r ∧ Below w.heap.size w w' := by
 unfold slices_Clone_int_int_81.f at h
 by_cases hl : l0.length * 8 ≤ 140737488355328
 ·rw [if_pos hl] at h
  obtain rfl := Option.some.inj h
  have key : ∀ (v' : Value) (w' : World), w'.ownsRow w.heap.size 3 1 v' l0.length (l0.map (Value.int .i64)) → Kd.R (Kd.int .i64) 3 w' w.heap.size (fun _ => True) v' l0 :=
   fun v' w' ho => Kd.R_of_own ho (fun _ _ => trivial)
  rcases Nat.eq_zero_or_pos l0.length with h0 | h0
  ·obtain rfl : l0 = [] := List.eq_nil_of_length_eq_zero h0
   cases A0 with
   | none =>
    refine (Try.slices_Clone_int_nil 0 c0 w).mono ?_
    rintro e w' ⟨rfl, rfl⟩
    exact ⟨_, rfl, Kd.R_nil _ _ _ _ _, Below.refl _ _⟩
   | some a =>
    refine (Try.slices_Clone_int_zero a c0 w).mono ?_
    rintro e w' ⟨v', rfl, ho, _, hb⟩
    exact ⟨_, rfl, key v' w' ho, hb⟩
  ·obtain ⟨b, off, rfl, hcells⟩ := h_ints_at hr0 h0
   refine (Try.slices_Clone_int b off l0.length c0 l0 w (Nat.le_refl _) hl hcells).mono ?_
   rintro e w' ⟨v', rfl, ho, _, hb⟩
   rw [List.take_length] at ho
   exact ⟨_, rfl, key v' w' ho, hb⟩
 ·rw [if_neg hl] at h
  cases h

/-! ### slices_SortFunc_int_int: function 82, by hand -/
-- PURE BLOCK eqlist
theorem seq_l (a b : List Int) (hl : a.length = b.length) (ha : a.length ≤ 4611686018427387904) : ∀ (d i : Nat), i + d = a.length → Ev (fun k => slices_Equal_int_int.l0 k a b (a.length : Int) (i : Int)) (decide (a.drop i = b.drop i))
 | 0, i, h => ev_stop fun k => by
  rw [slices_Equal_int_int.l0, if_neg (by omega), List.drop_of_length_le (show a.length ≤ i by omega), List.drop_of_length_le (show b.length ≤ i by omega), decide_eq_true rfl]
 | d + 1, i, h => by
  have hn : wrap64 ((i : Int) + 1) = ((i + 1 : Nat) : Int) := by rw [w64 (by omega) (by omega)]; omega
  have da : a.drop i = rd a (i : Int) :: a.drop (i + 1) := by rw [List.drop_eq_getElem_cons (show i < a.length by omega), rdn, List.getD_eq_getElem?_getD, List.getElem?_eq_getElem (show i < a.length by omega)]; rfl
  have db : b.drop i = rd b (i : Int) :: b.drop (i + 1) := by rw [List.drop_eq_getElem_cons (show i < b.length by omega), rdn, List.getD_eq_getElem?_getD, List.getElem?_eq_getElem (show i < b.length by omega)]; rfl
  rw [da, db]
  by_cases h1 : rd a (i : Int) = rd b (i : Int)
  ·have ih := seq_l a b hl ha d (i + 1) (by omega)
   have e : decide (rd a (i : Int) :: a.drop (i + 1) = rd b (i : Int) :: b.drop (i + 1)) = decide (a.drop (i + 1) = b.drop (i + 1)) := by simp [h1]
   rw [e]
   refine ev_step ih fun k => ?_
   rw [slices_Equal_int_int.l0, if_pos (by omega), if_pos (by omega), if_pos (by omega), if_pos (by omega), if_pos h1, hn]
  ·rw [decide_eq_false (show ¬ (rd a (i : Int) :: a.drop (i + 1) = rd b (i : Int) :: b.drop (i + 1)) from fun h => h1 (List.cons.inj h).1)]
   exact ev_stop fun k => by
    rw [slices_Equal_int_int.l0, if_pos (by omega), if_pos (by omega), if_pos (by omega), if_pos (by omega), if_neg h1]
theorem seq_tells (a b : List Int) (ha : a.length ≤ 4611686018427387904) : Ev (fun k => slices_Equal_int_int.f k a b) (decide (a = b)) := by
 by_cases hl : a.length = b.length
 ·have h := seq_l a b hl ha a.length 0 (by omega)
  rw [List.drop_zero, List.drop_zero] at h
  exact ev_ite_pos (by omega) h
 ·rw [decide_eq_false (fun e => hl (by rw [e]))]
  exact ev_ite_neg (by omega) (ev_some fun _ => rfl)

/-- A slice value, its numbers, and where it came from. -/
abbrev Tup := Value × List Int × Nat
/-- A slice of numbers that is read whatever is done to the blocks in S. -/
def Reads1 (S : Nat → Prop) (w : World) (v : Value) (x : List Int) : Prop := ∃ A c, v = .slice A x.length c ∧ x.length ≤ c ∧ ∀ W, Kept w W S → (Kd.int .i64).C W A x.length x
theorem Reads1.kept {S : Nat → Prop} {w w' : World} {v : Value} {x : List Int} (h : Reads1 S w v x) (hk : Kept w w' S) : Reads1 S w' v x := by
 obtain ⟨A, c, h1, h2, h3⟩ := h
 refine ⟨A, c, h1, h2, fun W hW => h3 W ⟨Nat.le_trans hk.1 hW.1, fun i hi hn => ?_⟩⟩
 rw [hW.2 i (Nat.lt_of_lt_of_le hi hk.1) hn, hk.2 i hi hn]
theorem Reads1.sub {S S' : Nat → Prop} {w : World} {v : Value} {x : List Int} (h : Reads1 S w v x) (hs : ∀ k, S' k → S k) : Reads1 S' w v x := by
 obtain ⟨A, c, h1, h2, h3⟩ := h
 exact ⟨A, c, h1, h2, fun W hW => h3 W ⟨hW.1, fun i hi hn => hW.2 i hi fun hs' => hn (hs i hs')⟩⟩
theorem h_sets_blk {g : Nat} {t : TypeId} : ∀ (vs : List Value) (o : Nat) (W : World) (cur : Array Value), W.heap[g]? = some (.cells cur t (0, 0)) → o + vs.length ≤ cur.size → ∃ cur' : Array Value, (W.setCells g o vs).heap[g]? = some (.cells cur' t (0, 0)) ∧ cur'.toList = cur.toList.take o ++ vs ++ cur.toList.drop (o + vs.length)
 | [], o, W, cur, h, _ => ⟨cur, h, by simp⟩
 | v :: vs, o, W, cur, h, hl => by
  simp only [List.length_cons] at hl
  obtain ⟨cur', h1, h2⟩ := h_sets_blk vs (o + 1) (W.setCell ⟨g, o, none⟩ v) _ (blk_set h o v) (by simp; omega)
  refine ⟨cur', h1, ?_⟩
  rw [h2, Array.toList_setIfInBounds]
  have e1 : (cur.toList.set o v).take (o + 1) = cur.toList.take o ++ [v] := by
   rw [List.take_succ_eq_append_getElem (by rw [List.length_set]; simp; omega), List.take_set_of_le (Nat.le_refl o)]
   simp
  have e2 : (cur.toList.set o v).drop (o + 1 + vs.length) = cur.toList.drop (o + (vs.length + 1)) := by
   rw [List.drop_set_of_lt (by omega), show o + 1 + vs.length = o + (vs.length + 1) by omega]
  rw [e1, e2]
  simp
theorem own_sets {w : World} {base e g n c : Nat} {vals vals' : List Value} (h : w.ownsRow base e 1 (.slice (some ⟨g, 0, none⟩) n c) n vals) (hl : vals'.length = n) : (w.setCells g 0 vals').ownsRow base e 1 (.slice (some ⟨g, 0, none⟩) n c) n vals' := by
 rcases h.2 with ⟨hv, _⟩ | ⟨g', cap', cur, hv, hb, hh, hlc, hcm, hcs, htk⟩
 ·cases hv
 injection hv with ha _ hc
 injection ha with ha
 injection ha with hg
 subst hg hc
 obtain ⟨cur', h1, h2⟩ := h_sets_blk vals' 0 w cur hh (by omega)
 refine ⟨by omega, .inr ⟨g, c, cur', rfl, hb, h1, hlc, hcm, ?_, ?_⟩⟩
 ·have := congrArg List.length h2
  simp at this
  omega
 ·rw [h2]
  simp [hl]
theorem own_move {w w' : World} {base e n sz : Nat} {v : Value} {vals : List Value} (h : w.ownsRow base e sz v n vals) (hm : ∀ k, v.ownBlock = some k → w'.heap[k]? = w.heap[k]?) : w'.ownsRow base e sz v n vals := by
 refine ⟨h.1, ?_⟩
 rcases h.2 with h | ⟨g, cap, cur, hv, hb, hh, rest⟩
 ·exact .inl h
 ·exact .inr ⟨g, cap, cur, hv, hb, by rw [hm g (by rw [hv]; rfl)]; exact hh, rest⟩
theorem own_below {w w' : World} {base e n sz : Nat} {v : Value} {vals : List Value} (h : w.ownsRow base e sz v n vals) (hb : Below w.heap.size w w') : w'.ownsRow base e sz v n vals := by
 refine ⟨h.1, ?_⟩
 rcases h.2 with h | ⟨g, cap, cur, hv, hb1, hh, rest⟩
 ·exact .inl h
 ·exact .inr ⟨g, cap, cur, hv, hb1, by rw [hb.block g (blk_lt hh)]; exact hh, rest⟩
/-- The cells of a row by its values. -/
theorem own_cell {w : World} {base e g n c : Nat} {vals : List Value} (h : w.ownsRow base e 1 (.slice (some ⟨g, 0, none⟩) n c) n vals) (j : Nat) (hj : j < n) : w.cell? ⟨g, j, none⟩ = some (vals.getD j undef) ∧ w.frozen? ⟨g, j, none⟩ = false := by
 rcases h.2 with ⟨hv, _⟩ | ⟨g', cap', cur, hv, hb, hh, hlc, hcm, hcs, htk⟩
 ·cases hv
 injection hv with ha _ hc
 injection ha with ha
 injection ha with hg
 subst hg hc
 have hl := h.1
 constructor
 ·have h1 : w.cell? ⟨g, j, none⟩ = cur[j]? := by simp [World.cell?, hh]
  rw [h1, ← htk, List.getD_eq_getElem?_getD, List.getElem?_take, if_pos (by omega)]
  rw [Array.getElem?_toList, Array.getElem?_eq_getElem (show j < cur.size by omega)]
  rfl
 ·simp [World.frozen?, hh]
theorem own_form {w : World} {base e n : Nat} {v : Value} {vals : List Value} (h : w.ownsRow base e 1 v n vals) (hn : 0 < n) : ∃ g c, v = .slice (some ⟨g, 0, none⟩) n c ∧ base ≤ g ∧ g < w.heap.size ∧ n ≤ c := by
 rcases h.2 with ⟨_, h0⟩ | ⟨g, c, cur, hv, hb, hh, hlc, _⟩
 ·omega
 ·exact ⟨g, c, hv, hb, blk_lt hh, hlc⟩
theorem own_val {w : World} {base e n : Nat} {v : Value} {vals : List Value} (h : w.ownsRow base e 1 v n vals) : ∃ A c, v = .slice A n c := by
 rcases h.2 with ⟨h, h0⟩ | ⟨g, c, cur, hv, _⟩
 ·exact ⟨none, 0, by rw [h, h0]⟩
 ·exact ⟨_, c, hv⟩
set_option maxHeartbeats 2000000 in
/-- slices.SortFunc of a row of slices, by slices.Compare. -/
theorem SortFunc_vals (v : Value) (ps : List Tup) (w0 w : World) (hB : Below w0.heap.size w0 w) (ho : w.ownsRow w0.heap.size 39 1 v ps.length (ps.map (·.1))) (hp : ∀ p ∈ ps, Reads1 (fun q => some q = v.ownBlock) w p.1 p.2.1) (hl : ps.length ≤ 1000000) (hs : ∀ p ∈ ps, p.2.1.length ≤ 1000000) :
  Calls Try.prog 82 #[v, .func (.func 83) #[] #[]] w fun e w' => e = .returned (.tuple #[]) ∧ ∃ qs : List Tup, qs.Perm ps ∧ qs.Pairwise (fun p q => ¬ cmpL q.2.1 p.2.1 < 0) ∧ w'.ownsRow w0.heap.size 39 1 v qs.length (qs.map (·.1)) ∧ Below w0.heap.size w0 w' ∧ Kept w w' (fun q => some q = v.ownBlock) := by
 rcases Nat.eq_zero_or_pos ps.length with h0 | h0
 ·obtain rfl : ps = [] := List.eq_nil_of_length_eq_zero h0
  obtain ⟨A, c, rfl⟩ := own_val ho
  refine (AnyF.slices_SortFunc_none { Try.laysSortFunc82 with } A c _ w).mono ?_
  rintro e w' ⟨rfl, rfl⟩
  exact ⟨rfl, [], .refl _, .nil, ho, hB, Kept.refl _ _⟩
 ·obtain ⟨g, c, rfl, hg, hgl, hnc⟩ := own_form ho h0
  have eg : ∀ args w, (callFunc 83 args).run Try.prog w = .ok (.enter 83 args) w := enters_ Try.func83 (by kernel_rfl) rfl
  let α := {p : Tup // p ∈ ps}
  have hne : ps ≠ [] := fun e => by rw [e] at h0; simp at h0
  letI : Inhabited α := ⟨⟨ps.head hne, List.head_mem hne⟩⟩
  let enc : α → Value := fun p => p.1.1
  let cf : α → α → Int := fun p q => cmpL p.1.2.1 q.1.2.1
  have hsz : ps.attach.toArray.size = ps.length := by simp
  have hH : Go.Sort.Holds enc w g 0 ps.attach.toArray := fun j hj => by
   have hj' : j < ps.length := by rw [hsz] at hj; exact hj
   obtain ⟨h1, h2⟩ := own_cell ho j hj'
   rw [Nat.zero_add]
   refine ⟨?_, h2⟩
   rw [h1, getElem!_pos ps.attach.toArray j hj]
   simp [enc, List.getD, List.getElem?_eq_getElem hj']
  have h1 : OneCell enc := fun p => by
   obtain ⟨A, k, e, _⟩ := hp p.1 p.2
   show p.1.1.oneCell' = true
   rw [e]
   rfl
  have hO : Go.Sort.SWO (Go.Proofs.ltOf cf) := {
   irrefl := fun x => by simp [Go.Proofs.ltOf, cf, cmpL_self]
   trans := fun x y z a b => by
    simp only [Go.Proofs.ltOf, decide_eq_true_eq] at a b ⊢
    exact cmpL_trans a b
   ntrans := fun x y z a b => by
    simp only [Go.Proofs.ltOf, decide_eq_false_iff_not] at a b ⊢
    exact cmpL_ntrans a b }
  have hput : ∀ (m : Nat) (dk : Array α), dk.size = ps.attach.toArray.size → Go.Sort.putRow enc (Go.Sort.ahead w m) g 0 dk = (w.drewN m).setCells g 0 (dk.toList.map enc) := fun m dk hd => by
   have := Lib.putRow_eq_setCells enc w g 0 ps.attach.toArray dk.toList m hH (by rw [Array.length_toList]; exact hd)
   simpa using this
  have hkp : ∀ (m : Nat) (os : Array Obj) (dk : Array α), dk.size = ps.attach.toArray.size → Kept w (Go.Proofs.sortWorld enc w g 0 m dk os) (fun q => some q = (Value.slice (some ⟨g, 0, none⟩) ps.length c).ownBlock) := fun m os dk hd => by
   unfold Go.Proofs.sortWorld
   rw [hput m dk hd]
   exact Kept.below (h_kept_sets (S := fun q => some q = (Value.slice (some ⟨g, 0, none⟩) ps.length c).ownBlock) (Kept.drewN (Kept.refl w _) m) (.inl rfl) _ _) (h_below_grow _ _)
  have hcmp : Go.Proofs.CmpLays1 Try.prog 83 #[] enc cf g 0 ps.attach.toArray.size w := fun m os dk hd x y => by
   obtain ⟨A, k, e, hk, hC⟩ := hp x.1 x.2
   obtain ⟨A2, k2, e2, hk2, hC2⟩ := hp y.1 y.2
   have hW := hkp m os dk hd
   obtain ⟨K, hK⟩ := scmp_tells x.1.2.1 y.1.2.1 (by have := hs x.1 x.2; omega)
   have hcall := slices_Compare_int_int.calls K A k x.1.2.1 A2 k2 y.1.2.1 _ _ (hC _ hW) hk (hC2 _ hW) hk2 (hK K (Nat.le_refl _))
   show Calls _ _ #[x.1.1, y.1.1] _ _
   rw [e, e2]
   refine hcall.mono ?_
   rintro e w' ⟨rfl, ⟨q, rfl⟩⟩
   exact ⟨rfl, q, #[], (Go.Sort.grow_empty _).symm⟩
  have hmain := Try.slices_SortFunc enc h1 cf hO 83 #[] g 0 c ps.attach.toArray w eg hcmp hH hgl (by rw [hsz]; omega)
  rw [hsz] at hmain
  refine hmain.mono ?_
  rintro e w' ⟨rfl, d', n, os, hperm, hsort, rfl⟩
  have hd : d'.size = ps.attach.toArray.size := hperm.1
  have hd' : d'.size = ps.length := by rw [hd, hsz]
  have hpp : d'.toList.Perm ps.attach := by
   have := hperm.2.2
   rw [← hd', Array.extract_size] at this
   rw [hd', ← hsz, Array.extract_size] at this
   simpa using this
  have hq : (d'.toList.map (·.1)).Perm ps := by
   have := hpp.map (·.1)
   rwa [List.attach_map_subtype_val] at this
  have hlen : (d'.toList.map (·.1)).length = ps.length := by simp [hd']
  have hmm : (d'.toList.map (·.1)).map (·.1) = d'.toList.map enc := by rw [List.map_map]; rfl
  refine ⟨rfl, d'.toList.map (·.1), hq, ?_, ?_, ?_, hkp n os d' hd⟩
  ·rw [List.pairwise_map, List.pairwise_iff_getElem]
   intro i j hi hj hij
   have hi' : i < d'.size := by simpa using hi
   have hj' : j < d'.size := by simpa using hj
   have := hsort i j (Nat.zero_le _) hij (by omega)
   rw [getElem!_pos d' i hi', getElem!_pos d' j hj'] at this
   simpa [Go.Proofs.ltOf, cf] using this
  ·rw [hlen, hmm]
   unfold Go.Proofs.sortWorld
   rw [hput n d' hd]
   refine own_below (own_sets (vals := ps.map (·.1)) (own_below ho (pw_below_drewN (Below.refl _ _) n)) (by simp [hd'])) (h_below_grow _ _)
  ·unfold Go.Proofs.sortWorld
   rw [hput n d' hd]
   exact below_then (h_below_sets (pw_below_drewN hB n) hg _ _) (h_below_sets (pw_below_drewN hB n) hg _ _).size (h_below_grow _ _)

end Go.Proofs.Ytcihgepinnajjaa.PFnExactWithoutOf
