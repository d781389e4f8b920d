-- Written for this claim by the session's own program (drive.py), over the kit's print, with contracts typed by hand.
import Derived.Test.YtmhmemiombcmnaaPFnExactGroupAtx0
import Derived.Test.YtmhmemiombcmnaaPFnExactGroupAtx2
import Derived.Test.YtmhmemiombcmnaaPFnExactGroupAtx3
import Derived.Test.YtmhmemiombcmnaaPFnExactGroupAtx4
namespace Go.Proofs.Ytmhmemiombcmnaa.PFnExactGroupAt
open Go.RowKit Go.Proofs.YtmhmemiombcmnaaW.PrintWords Go.Proofs.YtmhmemiombcmnaaW.PrintLast Go.Proofs.YtmhmemiombcmnaaW.PrintMore
attribute [local go_sem] max2_int min2_int max_two min_two max_three min_three max_four min_four   -- for this text's walks alone
set_option linter.unusedVariables false
set_option linter.unusedSimpArgs false

/-! ### slices_DeleteFunc_int_int: function 159, by hand -/
theorem h_filter_none (p : Int → Bool) (xs : List Int) (h : ∀ j, j < xs.length → p (xs.getD j 0) = false) : xs.filter (fun x => !p x) = xs := by
  rw [List.filter_eq_self]
  intro x hx
  obtain ⟨j, hj, rfl⟩ := List.mem_iff_getElem.1 hx
  have := h j hj
  simpa [List.getD, List.getElem?_eq_getElem hj] using this
theorem idxF_spec (p : Int → Bool) (xs : List Int) : (idxF p xs = -1 ∧ ∀ j, j < xs.length → p (xs.getD j 0) = false) ∨ ∃ k, k < xs.length ∧ idxF p xs = (k : Int) ∧ p (xs.getD k 0) = true ∧ ∀ j, j < k → p (xs.getD j 0) = false := by
  unfold idxF
  cases h : xs.findIdx? p with
  | none =>
    left
    rw [List.findIdx?_eq_none_iff] at h
    refine ⟨rfl, fun j hj => h _ ?_⟩
    rw [show xs.getD j 0 = xs[j] from by simp [List.getD, List.getElem?_eq_getElem hj]]
    exact List.getElem_mem hj
  | some i =>
    right
    rw [List.findIdx?_eq_some_iff_getElem] at h
    obtain ⟨hi, hp, hn⟩ := h
    refine ⟨i, hi, rfl, by simpa [List.getD, List.getElem?_eq_getElem hi] using hp, fun j hj => ?_⟩
    have := hn j hj
    simpa [List.getD, List.getElem?_eq_getElem (show j < xs.length by omega)] using this
/-- What the row holds after some rounds: what is kept of the first j, up to i; from j on as it was. -/
structure DelInv (p : Int → Bool) (xs : List Int) (i j : Nat) (cur : List Int) : Prop where
  lt : i < j
  le : j ≤ xs.length
  len : cur.length = xs.length
  low : cur.take i = (xs.take j).filter fun x => !p x
  high : cur.drop j = xs.drop j
theorem DelInv.start {p : Int → Bool} {xs : List Int} {k : Nat} (hk : k < xs.length) (hp : p (xs.getD k 0) = true) (hn : ∀ j, j < k → p (xs.getD j 0) = false) : DelInv p xs k (k + 1) xs := by
  refine ⟨by omega, by omega, rfl, ?_, rfl⟩
  rw [List.take_succ_eq_append_getElem hk, List.filter_append]
  have h1 : (xs.take k).filter (fun x => !p x) = xs.take k := by
    refine h_filter_none p _ fun j hj => ?_
    have hj' : j < k := by simp at hj; omega
    have := hn j hj'
    rw [show (xs.take k).getD j 0 = xs.getD j 0 from by simp [List.getD, List.getElem?_take, hj']]
    exact this
  have h2 : p xs[k] = true := by simpa [List.getD, List.getElem?_eq_getElem hk] using hp
  rw [h1]
  simp [h2]
theorem DelInv.at_ {p : Int → Bool} {xs cur : List Int} {i j : Nat} (h : DelInv p xs i j cur) (hj : j < xs.length) : cur.getD j 0 = xs.getD j 0 := by
  have h1 := congrArg (fun l : List Int => l.head?) h.high
  simp only [List.head?_drop] at h1
  simp only [List.getD]
  rw [h1]
theorem DelInv.keep {p : Int → Bool} {xs cur : List Int} {i j : Nat} (h : DelInv p xs i j cur) (hj : j < xs.length) (hp : p (xs.getD j 0) = false) : DelInv p xs (i + 1) (j + 1) (cur.set i (xs.getD j 0)) := by
  have hi := h.lt
  have hlen := h.len
  refine ⟨by omega, by omega, by simpa using h.len, ?_, ?_⟩
  · rw [List.take_succ_eq_append_getElem (by rw [List.length_set]; omega), List.take_set_of_le (Nat.le_refl i), h.low, List.take_succ_eq_append_getElem hj, List.filter_append]
    have h2 : p xs[j] = false := by simpa [List.getD, List.getElem?_eq_getElem hj] using hp
    simp [h2, List.getD, List.getElem?_eq_getElem hj]
  · rw [List.drop_set_of_lt (by omega)]
    have := congrArg (List.drop 1) h.high
    rwa [List.drop_drop, List.drop_drop] at this
theorem DelInv.skip {p : Int → Bool} {xs cur : List Int} {i j : Nat} (h : DelInv p xs i j cur) (hj : j < xs.length) (hp : p (xs.getD j 0) = true) : DelInv p xs i (j + 1) cur := by
  have hi := h.lt
  refine ⟨by omega, by omega, h.len, ?_, ?_⟩
  · rw [h.low, List.take_succ_eq_append_getElem hj, List.filter_append]
    have h2 : p xs[j] = true := by simpa [List.getD, List.getElem?_eq_getElem hj] using hp
    simp [h2]
  · have := congrArg (List.drop 1) h.high
    rwa [List.drop_drop, List.drop_drop] at this
/-- A predicate that answers whatever is done to the blocks in S; it may lay blocks of its own. -/
def PredS (g : Nat) (lb : Array Value) (xs : List Int) (p : Int → Bool) (w : World) (S : Nat → Prop) : Prop :=
  ∀ (W : World) (x : Int), Kept w W S → x ∈ xs → Calls Try.prog g (#[.int .i64 x] ++ lb) W fun e w' => e = .returned (.bool (p x)) ∧ Below W.heap.size W w'
set_option maxHeartbeats 4000000 in
set_option maxRecDepth 100000 in
/-- slices.DeleteFunc of a row of the call's own. -/
theorem DeleteFunc_int (g : Nat) (lb : Array Value) (eg : ∀ args w, (callFunc g args).run Try.prog w = .ok (.enter g args) w) (P0_ : Nat → Prop) (v : Value) (xs : List Int) (p : Int → Bool) (w0 w : World) (hB : Below w0.heap.size w0 w)
    (ho : Kd.R (Kd.int .i64) 3 w w0.heap.size P0_ v xs) (hp : PredS g lb xs p w P0_) :
    Calls Try.prog 159 #[v, .func (.func g) #[] lb] w fun e w' => ∃ v0_ : Value, e = .returned v0_ ∧ Kd.R (Kd.int .i64) 3 w' w0.heap.size (fun k_ => P0_ k_ ∨ w.heap.size ≤ k_) v0_ (xs.filter fun x => !p x) ∧ Below w0.heap.size w0 w' ∧ Kept w w' P0_ := by
  have ho1 : Kd.R (Kd.int .i64) 3 w w0.heap.size (fun k_ => (P0_ k_ ∨ w.heap.size ≤ k_)) v xs := Kd.R_mono ho (fun k_ hk => .inl hk)
  obtain ⟨A, c, rfl, hlc, hC⟩ := Kd.R_reads ho1
  have hIF := Lib.hid (IndexFunc_int g lb eg A c xs p w (fun W x v hb hx hK => by
    obtain rfl : v = .int .i64 x := by
      have : [v] = [Value.int .i64 x] := hK
      simpa using this
    exact hp W x (Kept.of_below hb _) hx) hC)
  have hm : xs.length ≤ 9223372036854775807 := hC.2.1
  rcases idxF_spec p xs with ⟨e1, hall⟩ | ⟨k0, hk0, e1, ht, hall⟩
  · rw [e1] at hIF
    rw [h_filter_none p xs hall]
    have HO := Aside0.mk ho1
    have HB := Aside0.mk hB
    clear ho ho1 hp hall hC hB e1
    go_enter Try.func159, Try.ntmps159
    go_wp2_with (go_at_call 168; refine hIF.out.mono ?_; rintro e w' ⟨rfl, hb⟩)
    go_ret
    exact ⟨_, rfl, Kd.R_below HO.out hb, below_step HB.out hb, Kept.of_below hb _⟩
  · rw [e1] at hIF
    have HP := Aside0.mk hp
    have HX := Aside0.mk hall
    have HT := Aside0.mk ht
    obtain ⟨gb, cb, eo, hg0, hgl, cells, hcells⟩ := Kd.R_form ho1 (by omega)
    injection eo with eA _ ec
    subst eA
    have HG0 := Aside0.mk hg0
    have HO := Aside0.mk ho1
    have HB := Aside0.mk hB
    have HS := Aside0.mk (show P0_ gb ∨ w.heap.size ≤ gb from .inl (ho.1 gb rfl))
    have hne1 : ((k0 : Int) == -1) = false := beq_eq_false_iff_ne.2 (by omega)
    clear ho ho1 hp hall hC hB e1 ht hg0 hgl hcells ec
    go_enter Try.func159, Try.ntmps159
    go_wp2_with (go_at_call 168; refine hIF.out.mono ?_; rintro e w' ⟨rfl, hb⟩)
    rename_i w1
    have HB1 := Aside0.mk hb
    clear hb
    go_loopg [5, 6, 7] xs.length (fun gg s5 s6 _ wr => ∃ (i j : Nat) (cur : List Int), s5 = .int .i64 i ∧ s6 = .int .i64 j ∧ xs.length - j ≤ gg ∧ Aside0 (DelInv p xs i j cur) ∧ Aside0 (Kd.R (Kd.int .i64) 3 wr w0.heap.size (fun k_ => (P0_ k_ ∨ w.heap.size ≤ k_)) (.slice (some ⟨gb, 0, none⟩) xs.length c) cur) ∧ Aside0 (Below w0.heap.size w0 wr) ∧ Aside0 (Kept w wr P0_))
    case atStart => exact ⟨k0, k0 + 1, xs, rfl, by go_num, by omega, ⟨DelInv.start hk0 HT.out HX.out⟩, ⟨Kd.R_below HO.out HB1.out⟩, ⟨below_step HB.out HB1.out⟩, ⟨Kept.of_below HB1.out _⟩⟩
    case round =>
      clear HO HB
      obtain ⟨i, j, cur, rfl, rfl, hgg, HI, HO, HB, HK⟩ := hrel
      have hij := HI.out.lt
      have hjl := HI.out.le
      have hcl := HI.out.len
      by_cases hlt : j < xs.length
      · have hltz : (j : Int) < (xs.length : Int) := by omega
        have cj : wr.cell? ⟨gb, j, none⟩ = some (.int .i64 (xs.getD j 0)) := by
          have h1 := (Kd.R_celln 0 HO.out (j : Int) (by omega) (by omega)).1
          rw [Int.toNat_natCast] at h1
          rw [h1, ← HI.out.at_ hlt]
          simp [rdOf]
        have hcall := HP.out wr (xs.getD j 0) HK.out (mem_getD xs 0 j hlt)
        generalize hy : xs.getD j 0 = y at cj hcall
        have HY := Aside0.mk hy
        clear hy
        have hit : (i : Int) < (xs.length : Int) := by omega
        cases hq : p y with
        | true =>
          rw [hq] at hcall
          have HQ := Aside0.mk hq
          clear hq
          go_wp2_with (go_at_fn g; refine hcall.mono ?_; rintro e w2 ⟨rfl, hb2⟩)
          go_roundg (xs.length - (j + 1))
          case measure => omega
          case rel => exact ⟨i, j + 1, cur, rfl, by go_num, by omega, ⟨HI.out.skip hlt (by rw [HY.out]; exact HQ.out)⟩, ⟨Kd.R_below HO.out hb2⟩, ⟨below_step HB.out hb2⟩, ⟨Kept.below HK.out hb2⟩⟩
        | false =>
          rw [hq] at hcall
          have HQ := Aside0.mk hq
          clear hq
          go_wp2_with (go_at_fn g; refine hcall.mono ?_; rintro e w2 ⟨rfl, hb2⟩; have HO2 := Aside0.mk (Kd.R_below HO.out hb2); have HB2 := Aside0.mk hb2; obtain ⟨ci, fi⟩ := Kd.R_celln 0 HO2.out (i : Int) (by omega) hit; rw [Int.toNat_natCast] at ci fi; clear hb2)
          go_roundg (xs.length - (j + 1))
          case measure => omega
          case rel =>
            refine ⟨i + 1, j + 1, cur.set i y, by go_num, by go_num, by omega, ⟨by have := HI.out.keep hlt (by rw [HY.out]; exact HQ.out); rwa [HY.out] at this⟩, ⟨?_⟩, ⟨(below_step HB.out HB2.out).setCell (p := ⟨gb, i, none⟩) HG0.out _⟩, ⟨(Kept.below HK.out HB2.out).setCell (p := ⟨gb, i, none⟩) HS.out _⟩⟩
            have := Kd.R_putn HO2.out (i : Int) y
            rwa [Int.toNat_natCast] at this
      · obtain rfl : j = xs.length := by omega
        have hltz : ¬ (xs.length : Int) < (xs.length : Int) := by omega
        have hlow := HI.out.low
        rw [List.take_length] at hlow
        have hil : i < xs.length := hij
        have hic : i ≤ c := by omega
        have hicz : (i : Int) ≤ (xs.length : Int) := by omega
        have hcl2 : ∀ ty, (Builtin.clear_ #[24] ty #[.slice (some ⟨gb, i, none⟩) (xs.length - i) (c - i)]).run Try.prog wr = .ok (.tuple #[]) (wr.setCells gb i (List.replicate (xs.length - i) (.int .i64 0))) :=
          fun ty => Lib.run_clear_slice wr _ _ ty _ Try.underlying24 Try.zeroValue3 rfl rfl gb i _ _ (by omega) (fun t ht => by
            have h1 := (Kd.R_celln 0 HO.out ((i + t : Nat) : Int) (by omega) (by omega)).1
            rw [Int.toNat_natCast] at h1
            rw [h1]
            rfl) (fun t ht => by
            have h1 := (Kd.R_celln 0 HO.out ((i + t : Nat) : Int) (by omega) (by omega)).2
            rw [Int.toNat_natCast] at h1
            exact h1)
        have HLOW := Aside0.mk hlow
        clear hlow
        go_wp2
        go_ret
        have hR := h_R_sets (List.replicate (xs.length - i) (0 : Int)) i wr cur HO.out (by simp; omega)
        rw [List.map_replicate] at hR
        have hT := Kd.R_take hR (m := i) (by simp; omega)
        have e3 : (cur.take i ++ List.replicate (xs.length - i) (0 : Int) ++ cur.drop (i + (List.replicate (xs.length - i) (0 : Int)).length)).take i = xs.filter fun x => !p x := by
          rw [List.append_assoc, List.take_append_of_le_length (by simp; omega), List.take_take, Nat.min_self, HLOW.out]
        rw [e3] at hT
        have hlen3 : (xs.filter fun x => !p x).length = i := by rw [← HLOW.out, List.length_take]; omega
        exact ⟨_, rfl, hT, h_below_sets HB.out HG0.out _ _, h_kept_sets HK.out HS.out _ _⟩

/-! ### impl_group_1: function 160, by hand -/
theorem h_index_l (l : List Int) (v : Int) (hl : l.length ≤ 9223372036854775807) : ∀ (d i : Nat), i + d = l.length → ∃ r : Int, slices_Index_int_int.l0 (d + 1) l v (l.length : Int) (i : Int) = some r ∧ decide (r ≥ 0) = (l.drop i).contains v
  | 0, i, h => by
    refine ⟨-1, by rw [slices_Index_int_int.l0, if_neg (by omega)], ?_⟩
    rw [List.drop_of_length_le (by omega)]
    rfl
  | d + 1, i, h => by
    have hd : l.drop i = l.getD i 0 :: l.drop (i + 1) := by
      rw [List.drop_eq_getElem_cons (show i < l.length by omega)]
      simp [List.getD, List.getElem?_eq_getElem (show i < l.length by omega)]
    have h1 : wrap64 ((i : Int) + 1) = ((i + 1 : Nat) : Int) := by rw [h_w64 (by omega) (by omega)]; omega
    by_cases e : v = l.getD i 0
    · refine ⟨i, by rw [slices_Index_int_int.l0, if_pos (by omega), if_pos (by omega), if_pos (by omega), h_rd, if_pos e], ?_⟩
      rw [hd, List.contains_cons, ← e]
      simp
    · obtain ⟨r, hr, hc⟩ := h_index_l l v hl d (i + 1) (by omega)
      refine ⟨r, by rw [slices_Index_int_int.l0, if_pos (by omega), if_pos (by omega), if_pos (by omega), h_rd, if_neg e, h1]; exact hr, ?_⟩
      rw [hd, List.contains_cons, hc]
      have : (v == l.getD i 0) = false := by simpa using e
      rw [this, Bool.false_or]
theorem h_contains (l : List Int) (v : Int) (hl : l.length ≤ 9223372036854775807) : slices_Contains_int_int.f (l.length + 1) l v = some (l.contains v) := by
  obtain ⟨r, hr, hc⟩ := h_index_l l v hl l.length 0 (by omega)
  unfold slices_Contains_int_int.f slices_Index_int_int.f
  rw [show slices_Index_int_int.l0 (l.length + 1) l v (l.length : Int) 0 = some r from hr, Option.bind_some, hc]
  rfl
/-- slices.Contains at []int, wherever the slice is read. -/
theorem h_contains_calls (A : Option Addr) (c : Nat) (l : List Int) (v : Int) (w : World) (hr : Kd.C (Kd.int .i64) w A l.length l) (hc : l.length ≤ c) :
    Calls Try.prog 96 #[.slice A l.length c, .int .i64 v] w fun e w' => e = .returned (.bool (l.contains v)) ∧ Drawn0 w w' :=
  slices_Contains_int_int.calls (l.length + 1) A c l v _ w hr hc (h_contains l v hr.2.1)
/-- A filter by what may have no answer. -/
def filtO (q : Int → Option Bool) (xs : List Int) : Option (List Int) := if xs.all (fun x => (q x).isSome) = true then some (xs.filter fun x => (q x).getD false) else none
theorem filtO_mono {q q' : Int → Option Bool} (h : ∀ x, LeO (q x) (q' x)) (xs : List Int) : LeO (filtO q xs) (filtO q' xs) := by
  intro r hr
  unfold filtO at hr ⊢
  by_cases ha : xs.all (fun x => (q x).isSome) = true
  · rw [if_pos ha] at hr
    have h1 : ∀ x ∈ xs, (q' x).isSome = true ∧ (q' x).getD false = (q x).getD false := fun x hx => by
      have := List.all_eq_true.1 ha x hx
      obtain ⟨b, hb⟩ := Option.isSome_iff_exists.1 this
      rw [h x b hb, hb]
      exact ⟨rfl, rfl⟩
    rw [if_pos (List.all_eq_true.2 fun x hx => (h1 x hx).1), ← hr]
    congr 1
    exact List.filter_congr fun x hx => (h1 x hx).2
  · rw [if_neg ha] at hr
    cases hr
theorem filtO_some {q : Int → Option Bool} {xs r : List Int} (h : filtO q xs = some r) : (∀ x ∈ xs, q x = some ((q x).getD false)) ∧ r = xs.filter fun x => (q x).getD false := by
  unfold filtO at h
  by_cases ha : xs.all (fun x => (q x).isSome) = true
  · rw [if_pos ha] at h
    refine ⟨fun x hx => ?_, (Option.some.inj h).symm⟩
    obtain ⟨b, hb⟩ := Option.isSome_iff_exists.1 (List.all_eq_true.1 ha x hx)
    rw [hb]
    rfl
  · rw [if_neg ha] at h
    cases h
set_option maxHeartbeats 1000000 in
theorem h_group1 (k : Nat) (B1 B2 : Nat) (A : Option Addr) (c : Nat) (l : List (List Int)) (node : Int) (w : World) (S : Nat → Prop) (hB1 : ¬ S B1) (hB2 : ¬ S B2) (hcell1 : w.cell? ⟨B1, 0, none⟩ = some (.slice A l.length c)) (hcell2 : w.cell? ⟨B2, 0, none⟩ = some (.int .i64 node))
    (hr : ∀ W, Kept w W S → Kd.C (Kd.slice 3 (Kd.int .i64)) W A l.length l) (hc : l.length ≤ c) (xs : List Int) (p : Int → Bool) (hp : ∀ x ∈ xs, ∃ rs, impl_reach.f k l x = some rs ∧ p x = !rs.contains node) :
    PredS 160 #[.pointer (some ⟨B1, 0, none⟩), .pointer (some ⟨B2, 0, none⟩)] xs p w S := by
  intro W x hk hx
  obtain ⟨rs, hrs, hpx⟩ := hp x hx
  rw [hpx]
  have hc1 : W.cell? ⟨B1, 0, none⟩ = some (.slice A l.length c) := cell_kept hcell1 hk hB1
  have hc2 : W.cell? ⟨B2, 0, none⟩ = some (.int .i64 node) := cell_kept hcell2 hk hB2
  have hl1 : B1 < W.heap.size := World.block_lt_of_cell? W ⟨B1, 0, none⟩ hc1
  have hl2 : B2 < W.heap.size := World.block_lt_of_cell? W ⟨B2, 0, none⟩ hc2
  have HR := Lib.hid (show ∀ W', Below W.heap.size W W' → Calls Try.prog 91 #[.slice A l.length c, .int .i64 x] W' _ from fun W' hb => impl_reach.calls k A c l x rs W' (Kd.C_below (hr W hk) hb) hc hrs)
  clear hcell1 hcell2 hk hr hB1 hB2 hp hpx hrs
  show Calls Try.prog 160 #[.int .i64 x, .pointer (some ⟨B1, 0, none⟩), .pointer (some ⟨B2, 0, none⟩)] W _
  go_enter Try.func160, Try.ntmps160
  go_wp2
  go_region_held3 (fun w' => Below W.heap.size W w' ∧ w'.cell? ⟨B1, 0, none⟩ = some (.slice A l.length c) ∧ w'.cell? ⟨B2, 0, none⟩ = some (.int .i64 node)) (first | assumption | exact ⟨below_drew (Below.refl _ _), hc1, hc2⟩)
    (first | (go_at_call 91; have hS := ‹Below W.heap.size W _ ∧ _ ∧ _›; refine (HR.out _ hS.1).mono ?_; rintro e w1 ⟨v0, rfl, hR, hb⟩; obtain ⟨A1, cc, rfl, hlc, hC⟩ := Kd.R_reads hR; have hS2 := And.intro (below_step hS.1 hb) (And.intro (pw_cell_below hb hS.2.1) (pw_cell_below hb hS.2.2)); clear hS hR hb) | (go_at_call 96; have hS := ‹Below W.heap.size W _ ∧ _ ∧ _›; refine (h_contains_calls _ _ rs node _ (by assumption) (by assumption)).mono ?_; rintro e w1 ⟨rfl, hd⟩; have hb := hd.below; have hS2 := And.intro (below_step hS.1 hb) (And.intro (pw_cell_below hb hS.2.1) (pw_cell_below hb hS.2.2)); clear hS hb hd))
  have hS := ‹Below W.heap.size W _ ∧ _ ∧ _›
  go_wp2
  go_ret
  exact ⟨by first | rfl | simp, hS.1⟩

/-! ### impl_group: function 95, by hand -/
def impl_group.f (k : Nat) (l0 : List (List Int)) (a1 : Int) : Option (List Int) := (impl_reach.f k l0 a1).bind fun rs => filtO (fun x => (impl_reach.f k l0 x).map fun qs => qs.contains a1) rs
theorem impl_group.mono : ∀ a0 a1 k, LeO (impl_group.f k a0 a1) (impl_group.f (k + 1) a0 a1) := by
  intro a0 a1 k r hr
  unfold impl_group.f at hr ⊢
  obtain ⟨rs, h1, h2⟩ := Option.bind_eq_some_iff.1 hr
  rw [impl_reach.mono _ _ k rs h1, Option.bind_some]
  exact filtO_mono (fun x => LeO.map _ (impl_reach.mono _ _ k)) rs r h2
set_option maxHeartbeats 8000000 in
set_option maxRecDepth 100000 in
theorem impl_group.calls (k : Nat) (A0 : Option Addr) (c0 : Nat) (l0 : List (List Int)) (a1 : Int) (r : List Int) (w : World) (hr0 : Kd.C (Kd.slice 3 (Kd.int .i64)) w A0 l0.length l0) (hc0 : l0.length ≤ c0) (h : impl_group.f k l0 a1 = some r) :
    Calls Try.prog 95 #[.slice A0 l0.length c0, .int .i64 a1] w fun e w' => ∃ v0_ : Value, e = .returned (v0_) ∧ Kd.R (Kd.int .i64) 3 w' w.heap.size (fun _ => True) v0_ r ∧ Below w.heap.size w w' := by
  obtain ⟨rs, hrs, hfl⟩ := Option.bind_eq_some_iff.1 h
  obtain ⟨hall, rfl⟩ := filtO_some hfl
  have eg : ∀ args w, (callFunc 160 args).run Try.prog w = .ok (.enter 160 args) w := enters_ Try.func160 (by kernel_rfl) rfl
  have hp : ∀ x ∈ rs, ∃ qs, impl_reach.f k l0 x = some qs ∧ (!((impl_reach.f k l0 x).map fun qs => qs.contains a1).getD false) = !qs.contains a1 := fun x hx => by
    have h1 := hall x hx
    obtain ⟨qs, h2, h3⟩ := Option.map_eq_some_iff.1 h1
    exact ⟨qs, h2, by rw [h2]; rfl⟩
  have hb0 : Below w.heap.size w ((w.alloc (.cells #[.slice A0 l0.length c0] 22)).alloc (.cells #[.int .i64 a1] 3)) := below_alloc (below_alloc (Below.refl _ _) _) _
  have HC := Lib.hid (impl_reach.calls k A0 c0 l0 a1 rs ((w.alloc (.cells #[.slice A0 l0.length c0] 22)).alloc (.cells #[.int .i64 a1] 3)) (Kd.C_below hr0 hb0) hc0 hrs)
  have HD := Lib.hid (show ∀ (v : Value) (w1 : World), Kd.R (Kd.int .i64) 3 w1 (w.heap.size + 2) (fun _ => True) v rs → Below (w.heap.size + 2) ((w.alloc (.cells #[.slice A0 l0.length c0] 22)).alloc (.cells #[.int .i64 a1] 3)) w1 → Calls Try.prog 159 #[v, .func (.func 160) #[] #[.pointer (some ⟨w.heap.size, 0, none⟩), .pointer (some ⟨w.heap.size + 1, 0, none⟩)]] w1 fun e w' => ∃ v0_ : Value, e = .returned v0_ ∧ Kd.R (Kd.int .i64) 3 w' w.heap.size (fun _ => True) v0_ (rs.filter fun x => ((impl_reach.f k l0 x).map fun qs => qs.contains a1).getD false) ∧ Below w.heap.size w w' from fun v w1 hR hb => by
    have hsz : ((w.alloc (.cells #[.slice A0 l0.length c0] 22)).alloc (.cells #[.int .i64 a1] 3)).heap.size = w.heap.size + 2 := by simp
    have hb2 : Below ((w.alloc (.cells #[.slice A0 l0.length c0] 22)).alloc (.cells #[.int .i64 a1] 3)).heap.size ((w.alloc (.cells #[.slice A0 l0.length c0] 22)).alloc (.cells #[.int .i64 a1] 3)) w1 := by rw [hsz]; exact hb
    have hb1 : Below w.heap.size w w1 := below_step hb0 hb2
    have hbase : ∀ k, (some k = v.ownBlock) → w.heap.size + 2 ≤ k := fun k hk => Kd.R_base hR k hk.symm
    have hP := h_group1 k w.heap.size (w.heap.size + 1) A0 c0 l0 a1 w1 (fun k => some k = v.ownBlock) (fun hk => by have := hbase _ hk; omega) (fun hk => by have := hbase _ hk; omega)
      (pw_cell_below hb2 (a := ⟨w.heap.size, 0, none⟩) (v := .slice A0 l0.length c0) (by simp)) (pw_cell_below hb2 (a := ⟨w.heap.size + 1, 0, none⟩) (v := .int .i64 a1) (by simp))
      (Kd.C_kept_came (Kd.heap_slice 3 (Kd.heap_int .i64)) hr0 hb1 (fun k hk => by have := hbase k hk; omega)) hc0 rs _ hp
    refine (DeleteFunc_int 160 _ eg (fun k => some k = v.ownBlock) v rs _ w w1 hb1 (Kd.R_lower (Kd.R_tight rfl hR) (by omega)) hP).mono ?_
    rintro e w' ⟨v0, rfl, hR', hB', _⟩
    exact ⟨v0, rfl, by simpa using Kd.R_mono (ok' := fun _ => True) hR' (fun _ _ => trivial), hB'⟩)
  clear hr0 hb0 h hfl hall hp hrs
  generalize (rs.filter fun x => ((impl_reach.f k l0 x).map fun qs => qs.contains a1).getD false) = q at HD ⊢
  go_enter Try.func95, Try.ntmps95
  go_wp2_with (first | (go_at_call 91; refine HC.out.mono ?_; rintro e w1 ⟨v, rfl, hR, hb⟩; have HR := Aside0.mk hR; have HB := Aside0.mk hb; clear hR hb) | (go_at_call 159; refine (HD.out _ _ (by simpa using HR.out) (by simpa using HB.out)).mono ?_; rintro e w' ⟨v0, rfl, hR, hb⟩))
  exact bodyPost_ret (v := v0) (by simp [results, go_sem]) rfl ⟨v0, rfl, hR, hb⟩

/-! ### impl_GroupAt: function 37 -/
def impl_GroupAt.f (k : Nat) (l0 : List (List Int)) (a1 : Int) : Option (List Int × Bool) := (impl_GoodLinks.f l0).bind fun t223 => (if t223 = true then ((impl_within.f a1 0 (wrap64 ((l0.length : Int) - 1))).bind fun t224 => (if t224 = true then ((impl_group.f k l0 a1).bind fun t225 => (some (t225, true))) else (some (([] : List Int), false)))) else (some (([] : List Int), false)))
theorem impl_GroupAt.mono : ∀ a0 a1 k, LeO (impl_GroupAt.f k a0 a1) (impl_GroupAt.f (k + 1) a0 a1) := by
  intro a0 a1 k
  unfold impl_GroupAt.f
  repeat' first
      | (with_reducible exact impl_group.mono _ _ _)
      | (with_reducible exact LeO.refl _)
      | (with_reducible exact LeO.none _)
      | (with_reducible refine LeO.ite ?_ ?_)
      | (with_reducible refine LeO.bind ?_ (fun _ => ?_))
      | exact impl_group.mono _ _ _
      | exact LeO.none _
      | refine LeO.ite ?_ ?_
      | refine LeO.bind ?_ (fun _ => ?_)
set_option maxHeartbeats 8000000 in
set_option maxRecDepth 100000 in
theorem impl_GroupAt.calls (k : Nat) (A0 : Option Addr) (c0 : Nat) (l0 : List (List Int)) (a1 : Int) (r1 : List Int) (r2 : Bool) (w : World) (hr0 : Kd.C (Kd.slice 3 (Kd.int .i64)) w A0 l0.length l0) (hc0 : l0.length ≤ c0) (h : impl_GroupAt.f k l0 a1 = some (r1, r2)) :
    Calls Try.prog 37 #[.slice A0 l0.length c0, .int .i64 a1] w fun e w' => ∃ v0_ : Value, e = .returned (.tuple #[v0_, .bool r2]) ∧ Kd.R (Kd.int .i64) 3 w' w.heap.size (fun _ => True) v0_ r1 ∧ Below w.heap.size w w' := by
  have HR0 := Aside0.mk hr0
  have HC0 := Aside0.mk hc0
  clear hr0 hc0
  have HB := Aside0.mk (Below.refl w.heap.size w)
  have H : ((impl_GoodLinks.f l0).bind fun t223 => (if t223 = true then ((impl_within.f a1 0 (wrap64 ((l0.length : Int) - 1))).bind fun t224 => (if t224 = true then ((impl_group.f k l0 a1).bind fun t225 => (some (t225, true))) else (some (([] : List Int), false)))) else (some (([] : List Int), false)))) = some (r1, r2) := h
  clear h
  replace H := Option.bind_eq_some_iff.mp H
  obtain ⟨t223, A30, H⟩ := H
  replace H : (if t223 = true then ((impl_within.f a1 0 (wrap64 ((l0.length : Int) - 1))).bind fun t224 => (if t224 = true then ((impl_group.f k l0 a1).bind fun t225 => (some (t225, true))) else (some (([] : List Int), false)))) else (some (([] : List Int), false))) = some (r1, r2) := H
  have A3 := Aside0.mk A30
  clear A30
  by_cases c4 : t223 = true
  · subst c4
    have H1 : ((impl_within.f a1 0 (wrap64 ((l0.length : Int) - 1))).bind fun t224 => (if t224 = true then ((impl_group.f k l0 a1).bind fun t225 => (some (t225, true))) else (some (([] : List Int), false)))) = some (r1, r2) := by rw [if_pos rfl] at H; exact H
    clear H
    have H := H1
    clear H1
    replace H := Option.bind_eq_some_iff.mp H
    obtain ⟨t224, A50, H⟩ := H
    replace H : (if t224 = true then ((impl_group.f k l0 a1).bind fun t225 => (some (t225, true))) else (some (([] : List Int), false))) = some (r1, r2) := H
    have A5 := Aside0.mk A50
    clear A50
    by_cases c6 : t224 = true
    · subst c6
      have H1 : ((impl_group.f k l0 a1).bind fun t225 => (some (t225, true))) = some (r1, r2) := by rw [if_pos rfl] at H; exact H
      clear H
      have H := H1
      clear H1
      replace H := Option.bind_eq_some_iff.mp H
      obtain ⟨t225, A70, H⟩ := H
      replace H : (some (t225, true)) = some (r1, r2) := H
      have A7 := Aside0.mk A70
      clear A70
      simp only [Option.some.injEq, Prod.mk.injEq] at H
      obtain ⟨rfl, rfl⟩ := H
      go_enter Try.func37, Try.ntmps37
      go_wp2_with (first | ((with_reducible refine gate_callee (f := 89) rfl ?_); refine goesL_ (some 7) rfl rfl Try.func89 (by kernel_rfl) rfl #[.slice A0 l0.length c0] rfl (by (try simp only [List.map_toArray, List.map_cons, List.map_nil]); first | done | rfl | (simp only [List.length_drop, List.length_take]; rfl)) ?_; (with_reducible refine (impl_GoodLinks.calls _ _ l0 true _ ?side1 ?side2 A3.out).mono ?_); (case side1 => repeat (first | exact HR0.out | (with_reducible refine Kd.C_alloc ?_ _) | (with_reducible refine Kd.C_drewN ?_ _) | (with_reducible refine Kd.C_drew ?_))); (case side2 => exact HC0.out); rintro e w8 ⟨rfl, hb⟩; refine ⟨_, rfl, ?_⟩; have n0_ := Aside0.mk (below_step (by repeat (first | (with_reducible first | exact HB.out | apply below_alloc | apply pw_below_drewN | apply below_drew1) | exact HB.out)) hb); clear HB; have HB := n0_; clear n0_; (try clear hb); (try clear hb2); (try clear hk); (try clear hi)) | (go_at_call 90; (with_reducible refine (impl_within.calls a1 0 (wrap64 ((l0.length : Int) - 1)) true _ A5.out).mono ?_); rintro e w' ⟨rfl, ⟨nd, rfl⟩⟩) | ((with_reducible refine gate_callee (f := 95) rfl ?_); refine goesL_ (some 19) rfl rfl Try.func95 (by kernel_rfl) rfl #[.slice A0 l0.length c0, .int .i64 a1] rfl (by (try simp only [List.map_toArray, List.map_cons, List.map_nil]); first | done | rfl | (simp only [List.length_drop, List.length_take]; rfl)) ?_; (with_reducible refine (impl_group.calls k _ _ l0 a1 t225 _ ?side1 ?side2 A7.out).mono ?_); (case side1 => repeat (first | exact (Kd.C_below HR0.out (by repeat (first | (with_reducible first | exact HB.out | apply below_alloc | apply pw_below_drewN | apply below_drew1) | exact HB.out))) | (with_reducible refine Kd.C_alloc ?_ _) | (with_reducible refine Kd.C_drewN ?_ _) | (with_reducible refine Kd.C_drew ?_))); (case side2 => exact HC0.out); rintro e w9 ⟨v226, rfl, ho0, hb⟩; refine ⟨_, rfl, ?_⟩; have n0_ := Aside0.mk (Kd.R_lower ho0 (below_size (by repeat (first | (with_reducible first | exact HB.out | apply below_alloc | apply pw_below_drewN | apply below_drew1) | exact HB.out)))); have n1_ := Aside0.mk (below_step (by repeat (first | (with_reducible first | exact HB.out | apply below_alloc | apply pw_below_drewN | apply below_drew1) | exact HB.out)) hb); clear HB; have HO227 := n0_; have HB := n1_; clear n0_ n1_; (try clear hb); (try clear hb2); (try clear hk); (try clear hi); (try clear ho0)))
      go_ret2
      exact ⟨_, by first | rfl | (simp [errW_none, errW_some] <;> rfl) | (simp [*, errW_none, errW_some] <;> rfl), by (with_reducible repeat (first | apply Kd.R_alloc | apply Kd.R_drewN | apply Kd.R_drew)); exact HO227.out, by repeat (first | (with_reducible first | exact HB.out | apply below_alloc | apply pw_below_drewN | apply below_drew1) | exact HB.out)⟩
    · replace c6 := Bool.eq_false_iff.mpr c6
      subst c6
      have H1 : (some (([] : List Int), false)) = some (r1, r2) := by rw [if_neg (show ¬ (false = true) by decide)] at H; exact H
      clear H
      have H := H1
      clear H1
      simp only [Option.some.injEq, Prod.mk.injEq] at H
      obtain ⟨rfl, rfl⟩ := H
      go_enter Try.func37, Try.ntmps37
      go_wp2_with (first | ((with_reducible refine gate_callee (f := 89) rfl ?_); refine goesL_ (some 7) rfl rfl Try.func89 (by kernel_rfl) rfl #[.slice A0 l0.length c0] rfl (by (try simp only [List.map_toArray, List.map_cons, List.map_nil]); first | done | rfl | (simp only [List.length_drop, List.length_take]; rfl)) ?_; (with_reducible refine (impl_GoodLinks.calls _ _ l0 true _ ?side1 ?side2 A3.out).mono ?_); (case side1 => repeat (first | exact HR0.out | (with_reducible refine Kd.C_alloc ?_ _) | (with_reducible refine Kd.C_drewN ?_ _) | (with_reducible refine Kd.C_drew ?_))); (case side2 => exact HC0.out); rintro e w10 ⟨rfl, hb⟩; refine ⟨_, rfl, ?_⟩; have n0_ := Aside0.mk (below_step (by repeat (first | (with_reducible first | exact HB.out | apply below_alloc | apply pw_below_drewN | apply below_drew1) | exact HB.out)) hb); clear HB; have HB := n0_; clear n0_; (try clear hb); (try clear hb2); (try clear hk); (try clear hi)) | (go_at_call 90; (with_reducible refine (impl_within.calls a1 0 (wrap64 ((l0.length : Int) - 1)) false _ A5.out).mono ?_); rintro e w' ⟨rfl, ⟨nd, rfl⟩⟩))
      go_ret2
      exact ⟨_, by first | rfl | (simp [errW_none, errW_some] <;> rfl) | (simp [*, errW_none, errW_some] <;> rfl), by first | exact Kd.R_nil _ _ _ _ _ | exact Kd.N_nil _ _ _ _ _ | exact Kd.V_nil _ _ _ _ _ | exact Kd.Q_nil _ _ _ _ _ | exact Kd.S_nil _ _ _ _ _, by repeat (first | (with_reducible first | exact HB.out | apply below_alloc | apply pw_below_drewN | apply below_drew1) | exact HB.out)⟩
  · replace c4 := Bool.eq_false_iff.mpr c4
    subst c4
    have H1 : (some (([] : List Int), false)) = some (r1, r2) := by rw [if_neg (show ¬ (false = true) by decide)] at H; exact H
    clear H
    have H := H1
    clear H1
    simp only [Option.some.injEq, Prod.mk.injEq] at H
    obtain ⟨rfl, rfl⟩ := H
    go_enter Try.func37, Try.ntmps37
    go_wp2_with (first | ((with_reducible refine gate_callee (f := 89) rfl ?_); refine goesL_ (some 7) rfl rfl Try.func89 (by kernel_rfl) rfl #[.slice A0 l0.length c0] rfl (by (try simp only [List.map_toArray, List.map_cons, List.map_nil]); first | done | rfl | (simp only [List.length_drop, List.length_take]; rfl)) ?_; (with_reducible refine (impl_GoodLinks.calls _ _ l0 false _ ?side1 ?side2 A3.out).mono ?_); (case side1 => repeat (first | exact HR0.out | (with_reducible refine Kd.C_alloc ?_ _) | (with_reducible refine Kd.C_drewN ?_ _) | (with_reducible refine Kd.C_drew ?_))); (case side2 => exact HC0.out); rintro e w11 ⟨rfl, hb⟩; refine ⟨_, rfl, ?_⟩; have n0_ := Aside0.mk (below_step (by repeat (first | (with_reducible first | exact HB.out | apply below_alloc | apply pw_below_drewN | apply below_drew1) | exact HB.out)) hb); clear HB; have HB := n0_; clear n0_; (try clear hb); (try clear hb2); (try clear hk); (try clear hi)))
    go_ret2
    exact ⟨_, by first | rfl | (simp [errW_none, errW_some] <;> rfl) | (simp [*, errW_none, errW_some] <;> rfl), by first | exact Kd.R_nil _ _ _ _ _ | exact Kd.N_nil _ _ _ _ _ | exact Kd.V_nil _ _ _ _ _ | exact Kd.Q_nil _ _ _ _ _ | exact Kd.S_nil _ _ _ _ _, by repeat (first | (with_reducible first | exact HB.out | apply below_alloc | apply pw_below_drewN | apply below_drew1) | exact HB.out)⟩

-- NOT PRINTED: function 5 (laws_FnExactGroupAt)

end Go.Proofs.Ytmhmemiombcmnaa.PFnExactGroupAt
