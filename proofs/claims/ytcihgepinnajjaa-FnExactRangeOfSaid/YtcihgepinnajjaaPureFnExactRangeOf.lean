/- The law FnExactRangeOf: the program's function tells what the reference tells, for all arguments; here: of the two as plain functions of numbers and lists. -/
import Derived.Test.YtcihgepinnajjaaQFnExactRangeOf
namespace Go.Proofs.Ytcihgepinnajjaa.Pure
open Go.RowKit Go.Proofs.Ytcihgepinnajjaa.PFnExactRangeOf Go.Proofs.YtcihgepinnajjaaW.PrintWords Go.Proofs.YtcihgepinnajjaaW.PrintLast Go.Proofs.YtcihgepinnajjaaW.PrintMore
set_option linter.unusedVariables false
set_option linter.unusedSimpArgs false
set_option linter.unnecessarySimpa false

theorem w64 {i : Int} (h0 : -9223372036854775808 ≤ i) (h1 : i ≤ 9223372036854775807) : wrap64 i = i := by
  unfold wrap64
  omega

theorem rdn (l : List Int) (i : Nat) : rd l (i : Int) = l.getD i 0 := by simp [rd]

/-- A round of a loop, then what it comes to. -/
theorem ev_step {α : Type} {g f : Nat → Option α} {r : α} (k : Ev f r) (h : ∀ k, g (k + 1) = f k) : Ev g r := Ev.step h k
theorem ev_some {α : Type} {g : Nat → Option α} {r : α} (h : ∀ k, g k = some r) : Ev g r := ⟨0, fun k _ => h k⟩
theorem ev_stop {α : Type} {g : Nat → Option α} {r : α} (h : ∀ k, g (k + 1) = some r) : Ev g r := Ev.step h (Ev.now r)
theorem ev_bind {α β : Type} {g : Nat → Option α} {f : Nat → α → Option β} {a : α} {r : β} (h : Ev g a) (k : Ev (fun n => f n a) r) : Ev (fun n => (g n).bind (f n)) r := Ev.bind h k
theorem ev_some_bind {α β : Type} {g : Option α} {f : Nat → α → Option β} {a : α} {r : β} (h : g = some a) (k : Ev (fun n => f n a) r) : Ev (fun n => g.bind (f n)) r := by
  subst h
  exact k
theorem ev_ite_pos {α : Type} {c : Prop} [Decidable c] {g f : Nat → Option α} {r : α} (hc : c) (h : Ev g r) : Ev (fun n => if c then g n else f n) r := Ev.congr (fun _ => if_pos hc) h
theorem ev_ite_neg {α : Type} {c : Prop} [Decidable c] {g f : Nat → Option α} {r : α} (hc : ¬ c) (h : Ev f r) : Ev (fun n => if c then g n else f n) r := Ev.congr (fun _ => if_neg hc) h

def inB (a b x : Int) : Bool := decide (a ≤ x) && decide (x ≤ b)
theorem drop_at (l : List Int) (i : Nat) (h : i < l.length) : l.drop i = l.getD i 0 :: l.drop (i + 1) := by
  rw [List.drop_eq_getElem_cons h]
  simp [List.getD, List.getElem?_eq_getElem h]
/-- What a search for a fault comes to, round by round. -/
theorem all_ends {F : Nat → Nat → Option Bool} {p : Nat → Bool} {r : Bool} {n : Nat} (stop : Ev (fun k => F k n) r) (go : ∀ i, i < n → p i = true → ∀ q, Ev (fun k => F k (i + 1)) q → Ev (fun k => F k i) q) (no : ∀ i, i < n → p i = false → Ev (fun k => F k i) false) :
    ∀ (d i : Nat), i + d = n → Ev (fun k => F k i) ((List.range' i d).all p && r)
  | 0, i, h => by
    obtain rfl : i = n := by omega
    simpa using stop
  | d + 1, i, h => by
    have ih := all_ends stop go no d (i + 1) (by omega)
    rw [List.range'_succ, List.all_cons, Bool.and_assoc]
    cases hp : p i with
    | true => simpa using go i (by omega) hp _ ih
    | false => simpa using no i (by omega) hp
theorem all_from {F : Nat → Nat → Option Bool} {p : Nat → Bool} {r : Bool} {n : Nat} (stop : Ev (fun k => F k n) r) (go : ∀ i, i < n → p i = true → ∀ q, Ev (fun k => F k (i + 1)) q → Ev (fun k => F k i) q) (no : ∀ i, i < n → p i = false → Ev (fun k => F k i) false) :
    Ev (fun k => F k 0) ((List.range n).all p && r) := by
  rw [List.range_eq_range']
  exact all_ends stop go no n 0 (by omega)
theorem next (i : Nat) (h : i < 4611686018427387904) : wrap64 ((i : Int) + 1) = ((i + 1 : Nat) : Int) := by
  rw [w64 (by omega) (by omega)]
  omega

def convValue (x : S98) : S85 := ⟨x.f0, x.f1⟩
theorem drop_val (l : List S85) (i : Nat) (h : i < l.length) : l.drop i = rd_T85 l i :: l.drop (i + 1) := by
  rw [List.drop_eq_getElem_cons h]
  simp [rd_T85, List.getD, List.getElem?_eq_getElem h]
theorem toValue_l (l : List S98) (hl : l.length ≤ 4611686018427387903) : ∀ (d i : Nat) (m : List S85), m.length = l.length → i + d = l.length → m.take i = (l.map convValue).take i → Ev (fun k => laws_toValueS.l0 k l m (i : Int)) (l.map convValue)
  | 0, i, m, hm, h, ht => ev_stop fun k => by
    rw [laws_toValueS.l0, if_neg (by omega)]
    rw [List.take_of_length_le (by omega), List.take_of_length_le (by simp; omega)] at ht
    rw [ht]
  | d + 1, i, m, hm, h, ht => by
    refine ev_step (toValue_l l hl d (i + 1) (m.set i (convValue (l.getD i z98))) (by simpa using hm) (by omega) ?_) fun k => by
      rw [laws_toValueS.l0, if_pos (by omega), if_pos (by omega)]
      unfold laws_toValue.f
      rw [Option.bind_some, if_pos (by omega), next i (by omega)]
      rfl
    rw [List.take_succ_eq_append_getElem (by simp; omega), List.take_succ_eq_append_getElem (by simp; omega), List.take_set_of_le (Nat.le_refl i), ht]
    simp [List.getD, List.getElem?_eq_getElem (show i < l.length by omega)]
theorem toValue_tells (l : List S98) (hl : l.length ≤ 1048576) : Ev (fun k => laws_toValueS.f k l) (l.map convValue) := by
  refine Ev.congr (g := fun k => laws_toValueS.f k l) (fun k => ?_) (toValue_l l (by omega) l.length 0 (List.replicate l.length z85) (by simp) (by omega) (by simp))
  unfold laws_toValueS.f
  rw [if_pos (by omega), if_pos (by omega), Int.toNat_natCast]
  rfl
theorem eqValue_l (l : List S85) (hl : l.length ≤ 4611686018427387903) : ∀ (d i : Nat), i + d = l.length → Ev (fun k => laws_eqValueS.l0 k l l (i : Int)) true
  | 0, i, h => ev_stop fun k => by
    rw [laws_eqValueS.l0, if_neg (by omega)]
  | d + 1, i, h => by
    refine ev_step (eqValue_l l hl d (i + 1) (by omega)) fun k => by
      rw [laws_eqValueS.l0, if_pos (by omega), if_pos (by omega), if_pos (by omega)]
      unfold laws_eqValue.f
      simp [next i (by omega)]
theorem eqValue_tells (l : List S85) (hl : l.length ≤ 4611686018427387903) : Ev (fun k => laws_eqValueS.f k l l) true := by
  refine Ev.congr (g := fun k => laws_eqValueS.f k l l) (fun k => ?_) (eqValue_l l hl l.length 0 (by omega))
  unfold laws_eqValueS.f
  rw [if_pos rfl]
  rfl
theorem szvalue (l : List S98) (a : Int) (h0 : 0 ≤ a) (h1 : a ≤ 1048576) (hl : l.length ≤ maxLen) : laws_szValueS.f l a = some (if a < (l.length : Int) then -1 else a - (l.length : Int)) := by
  have hm : maxLen ≤ 9223372036854775807 := by decide
  unfold laws_szValueS.f
  rw [w64 (by omega) (by omega)]
  split <;> split <;> first | rfl | omega

theorem within_tells (a b c : Int) : impl_within.f a b c = some (decide (b ≤ a) && decide (a ≤ c)) := by
  unfold impl_within.f
  by_cases h : a ≥ b
  · rw [if_pos h]; simp [show b ≤ a from h]
  · rw [if_neg h]; simp [show ¬ b ≤ a from h]

theorem sin_tells (a b c : Int) : spec_l1In.f a b c = some (decide (b ≤ a) && decide (a ≤ c)) := by
  unfold spec_l1In.f
  by_cases h : a ≥ b
  · rw [if_pos h]; simp [show b ≤ a from h]
  · rw [if_neg h]; simp [show ¬ b ≤ a from h]

def goodVal (x : S85) : Bool := inB (-1000) 1000 x.f1 && (!x.f0 || decide (x.f1 = 0))
theorem sval_tells (x : S85) : spec_GoodValue.f x.f0 x.f1 = some (goodVal x) := by
  unfold spec_GoodValue.f goodVal
  rw [sin_tells, Option.bind_some]
  change (if inB (-1000) 1000 x.f1 = true then _ else _) = _
  cases inB (-1000) 1000 x.f1 with
  | false => rfl
  | true =>
    cases x.f0 with
    | false => rfl
    | true => rfl
theorem ival_tells (x : S85) : impl_GoodValue.f x.f0 x.f1 = some (goodVal x) := by
  unfold impl_GoodValue.f goodVal impl_isSmall.f
  rw [within_tells, Option.bind_some]
  cases x.f0 with
  | false => simp [inB]
  | true =>
    by_cases h : x.f1 = 0
    · simp [h, inB]
    · simp [h]
theorem srow_l (key : Int) (l m : List S85) (hl : l.length ≤ 1048576) : ∀ (d i : Nat), i + d = l.length → Ev (fun k => spec_l2Row.l0 k l (l.length : Int) (i : Int) key m) ((l.drop i).all goodVal && (inB 0 999 key && decide (m.length = 3)))
  | 0, i, h => ev_stop fun k => by
    rw [spec_l2Row.l0, if_neg (by omega), sin_tells, Option.bind_some, List.drop_of_length_le (by omega)]
    change (if inB 0 999 key = true then some ((m.length : Int) == 3) else some false) = _
    cases inB 0 999 key with
    | false => rfl
    | true =>
      rw [if_pos rfl]
      by_cases h3 : m.length = 3
      · simp [h3]
      · have : ((m.length : Int) == 3) = false := beq_eq_false_iff_ne.mpr (by omega)
        rw [this]
        simp [h3]
  | d + 1, i, h => by
    have ih := srow_l key l m hl d (i + 1) (by omega)
    rw [drop_val l i (by omega), List.all_cons, Bool.and_assoc]
    refine Ev.step (f := fun k => if goodVal (rd_T85 l i) = true then spec_l2Row.l0 k l (l.length : Int) ((i + 1 : Nat) : Int) key m else some false) (fun k => ?_) ?_
    · rw [spec_l2Row.l0, if_pos (by omega), if_pos (by omega), if_pos (by omega), sval_tells, Option.bind_some, next i (by omega)]
    · cases goodVal (rd_T85 l i) with
      | true => simpa using ih
      | false => exact ev_some fun k => by simp
theorem srow_tells (key : Int) (l : List S85) (hl : l.length ≤ 1048576) : Ev (fun k => spec_l2Row.f k key l) (l.all goodVal && (inB 0 999 key && decide (l.length = 3))) := by
  have h := srow_l key l l hl l.length 0 (by omega)
  rw [List.drop_zero] at h
  exact h
theorem ivals_l (l : List S85) (hl : l.length ≤ 1048576) : ∀ (d i : Nat), i + d = l.length → Ev (fun k => impl_areValues.l0 k l (l.length : Int) (i : Int)) ((l.drop i).all goodVal)
  | 0, i, h => ev_stop fun k => by
    rw [impl_areValues.l0, if_neg (by omega), List.drop_of_length_le (by omega)]
    rfl
  | d + 1, i, h => by
    have ih := ivals_l l hl d (i + 1) (by omega)
    rw [drop_val l i (by omega), List.all_cons]
    refine Ev.step (f := fun k => if goodVal (rd_T85 l i) = true then impl_areValues.l0 k l (l.length : Int) ((i + 1 : Nat) : Int) else some false) (fun k => ?_) ?_
    · rw [impl_areValues.l0, if_pos (by omega), if_pos (by omega), if_pos (by omega), ival_tells, Option.bind_some, next i (by omega)]
    · cases goodVal (rd_T85 l i) with
      | true => simpa using ih
      | false => exact ev_some fun k => by simp
theorem ikey_tells (key : Int) : impl_isKey.f key = some (inB 0 999 key) := by
  unfold impl_isKey.f
  rw [within_tells]
  rfl
theorem irow_tells (key : Int) (l : List S85) (hl : l.length ≤ 1048576) : Ev (fun k => impl_isRow.f k key l) (l.all goodVal && (inB 0 999 key && decide (l.length = 3))) := by
  unfold impl_isRow.f
  refine ev_some_bind (ikey_tells key) ?_
  cases inB 0 999 key with
  | false => exact ev_ite_neg (by simp) (ev_some fun _ => by simp)
  | true =>
    refine ev_ite_pos rfl ?_
    by_cases h3 : l.length = 3
    · have h := ivals_l l hl l.length 0 (by omega)
      rw [List.drop_zero] at h
      exact ev_ite_pos (by omega) (ev_bind h (ev_some fun _ => by simp [h3]))
    · exact ev_ite_neg (by omega) (ev_some fun _ => by simp [h3])

/-- What a list of rows holds. -/
def vsumL : List S54 → Nat
  | [] => 0
  | b :: r => b.f1.length + vsumL r
def rsum : List S26 → Nat
  | [] => 0
  | b :: r => 1 + 2 * b.f1.length + rsum r
theorem drop_lr (l : List S54) (i : Nat) (h : i < l.length) : l.drop i = l.getD i z54 :: l.drop (i + 1) := by
  rw [List.drop_eq_getElem_cons h, List.getD_eq_getElem?_getD, List.getElem?_eq_getElem h]
  rfl
theorem drop_ir (l : List S26) (i : Nat) (h : i < l.length) : l.drop i = l.getD i z26 :: l.drop (i + 1) := by
  rw [List.drop_eq_getElem_cons h, List.getD_eq_getElem?_getD, List.getElem?_eq_getElem h]
  rfl
theorem lr_mem (l : List S54) (i : Nat) (h : i < l.length) : l.getD i z54 ∈ l := by
  rw [List.getD_eq_getElem?_getD, List.getElem?_eq_getElem h]
  exact List.getElem_mem h
theorem ir_mem (l : List S26) (i : Nat) (h : i < l.length) : l.getD i z26 ∈ l := by
  rw [List.getD_eq_getElem?_getD, List.getElem?_eq_getElem h]
  exact List.getElem_mem h
theorem szr (b : S54) (t : Int) (h0 : 0 ≤ t) (h1 : t ≤ 1048576) (h2 : b.f1.length ≤ maxLen) : ∃ z, laws_szRow.f b.f0 b.f1 t = some z ∧ (0 ≤ z → z = t - b.f1.length) := by
  unfold laws_szRow.f
  rw [szvalue b.f1 t h0 h1 h2, Option.bind_some]
  by_cases h : t < (b.f1.length : Int)
  · exact ⟨-1, by simp [h], by omega⟩
  · rw [if_neg h, if_neg (by omega)]
    exact ⟨_, rfl, by omega⟩
theorem szr_l (l : List S54) (hl : l.length ≤ 1048576) (hr : ∀ x ∈ l, x.f1.length ≤ maxLen) : ∀ (d i : Nat) (t : Int), i + d = l.length → 0 ≤ t → t ≤ 1048576 → ∃ u, Ev (fun k => laws_szRowS.l0 k l t (i : Int)) u ∧ (0 ≤ u → (vsumL (l.drop i) : Int) + u ≤ t)
  | 0, i, t, h, h0, h1 => ⟨t, ev_stop fun k => by rw [laws_szRowS.l0, if_neg (by omega)], fun _ => by rw [List.drop_of_length_le (by omega)]; simp [vsumL]⟩
  | d + 1, i, t, h, h0, h1 => by
    obtain ⟨z, hz, hz2⟩ := szr (l.getD i z54) t h0 h1 (hr _ (lr_mem l i (by omega)))
    have hx : rd_T54 l (i : Int) = l.getD i z54 := rfl
    by_cases hn : z < 0
    · exact ⟨-1, ev_stop fun k => by rw [laws_szRowS.l0, if_pos (by omega), if_pos (by omega), hx, hz, Option.bind_some, if_pos hn], by omega⟩
    · have e := hz2 (by omega)
      obtain ⟨u, hu, hb⟩ := szr_l l hl hr d (i + 1) z (by omega) (by omega) (by omega)
      refine ⟨u, Ev.step (f := fun k => laws_szRowS.l0 k l z ((i + 1 : Nat) : Int)) (fun k => by rw [laws_szRowS.l0, if_pos (by omega), if_pos (by omega), hx, hz, Option.bind_some, if_neg hn, next i (by omega)]) hu, fun h5 => ?_⟩
      have := hb h5
      rw [drop_lr l i (by omega), vsumL]
      omega
theorem szr_tells (l : List S54) (hl : l.length ≤ maxLen) (hr : ∀ x ∈ l, x.f1.length ≤ maxLen) : ∃ u, Ev (fun k => laws_szRowS.f k l 1048576) u ∧ (0 ≤ u → l.length + vsumL l ≤ 1048576) := by
  have hm : maxLen ≤ 9223372036854775807 := by decide
  unfold laws_szRowS.f
  rw [w64 (by omega) (by omega)]
  by_cases h : 1048576 - (l.length : Int) < 0
  · exact ⟨-1, ev_ite_pos h (ev_some fun _ => rfl), by omega⟩
  · obtain ⟨u, hu, hb⟩ := szr_l l (by omega) hr l.length 0 (1048576 - (l.length : Int)) (by omega) (by omega) (by omega)
    refine ⟨u, ev_ite_neg h hu, fun h0 => ?_⟩
    have := hb h0
    rw [List.drop_zero] at this
    omega
theorem vsumL_mem : ∀ (l : List S54) (x : S54), x ∈ l → x.f1.length ≤ vsumL l
  | b :: r, x, h => by
    rw [vsumL]
    rcases List.mem_cons.1 h with e | e
    · rw [e]; omega
    · have := vsumL_mem r x e; omega
def convR (x : S54) : S26 := ⟨x.f0, x.f1.map convValue⟩
theorem rsum_conv : ∀ l : List S54, rsum (l.map convR) = l.length + 2 * vsumL l
  | [] => rfl
  | b :: r => by
    rw [List.map_cons, rsum, vsumL, rsum_conv r, List.length_cons]
    simp only [convR, List.length_map]
    omega
theorem rsum_mem : ∀ (l : List S26) (x : S26), x ∈ l → 1 + 2 * x.f1.length ≤ rsum l
  | b :: r, x, h => by
    rw [rsum]
    rcases List.mem_cons.1 h with e | e
    · rw [e]; omega
    · have := rsum_mem r x e; omega
theorem rsum_len : ∀ l : List S26, l.length ≤ rsum l
  | [] => Nat.le_refl _
  | b :: r => by have := rsum_len r; rw [rsum, List.length_cons]; omega
theorem toR_l (l : List S54) (hl : l.length ≤ 1048576) (hr : ∀ x ∈ l, x.f1.length ≤ 1048576) : ∀ (d i : Nat) (m : List S26), m.length = l.length → i + d = l.length → m.take i = (l.map convR).take i → Ev (fun k => laws_toRowS.l0 k l m (i : Int)) (l.map convR)
  | 0, i, m, hm, h, ht => ev_stop fun k => by
    rw [laws_toRowS.l0, if_neg (by omega)]
    rw [List.take_of_length_le (by omega), List.take_of_length_le (by simp; omega)] at ht
    rw [ht]
  | d + 1, i, m, hm, h, ht => by
    have q := hr _ (lr_mem l i (by omega))
    have hx : rd_T54 l (i : Int) = l.getD i z54 := rfl
    have hB : Ev (fun k => laws_toRow.f k (l.getD i z54).f0 (l.getD i z54).f1) ((l.getD i z54).f0, (l.getD i z54).f1.map convValue) := by
      unfold laws_toRow.f
      exact ev_bind (toValue_tells _ q) (ev_some fun _ => rfl)
    have ih := toR_l l hl hr d (i + 1) (m.set i (convR (l.getD i z54))) (by simpa using hm) (by omega) (by
      rw [List.take_succ_eq_append_getElem (by simp; omega), List.take_succ_eq_append_getElem (by simp; omega), List.take_set_of_le (Nat.le_refl i), ht]
      simp [List.getD, List.getElem?_eq_getElem (show i < l.length by omega)])
    refine Ev.step (f := fun k => (laws_toRow.f k (l.getD i z54).f0 (l.getD i z54).f1).bind fun bt => laws_toRowS.l0 k l (m.set i (⟨bt.1, bt.2⟩ : S26)) ((i + 1 : Nat) : Int)) (fun k => ?_) (ev_bind hB ih)
    rw [laws_toRowS.l0, if_pos (by omega), if_pos (by omega), hx]
    have hq : (i : Int) < (m.length : Int) := by omega
    simp only [hq, if_true, next i (by omega), Int.toNat_natCast]
theorem toR_tells (l : List S54) (hl : l.length ≤ 1048576) (hr : ∀ x ∈ l, x.f1.length ≤ 1048576) : Ev (fun k => laws_toRowS.f k l) (l.map convR) := by
  refine Ev.congr (g := fun k => laws_toRowS.f k l) (fun k => ?_) (toR_l l hl hr l.length 0 (List.replicate l.length z26) (by simp) (by omega) (by simp))
  unfold laws_toRowS.f
  rw [if_pos (by omega), if_pos (by omega), Int.toNat_natCast]
  rfl
theorem eqR1_tells (a : Int) (v : List S85) (h : v.length ≤ 4611686018427387903) : Ev (fun k => laws_eqRow.f k a v a v) true := by
  unfold laws_eqRow.f
  exact ev_ite_pos rfl (ev_bind (eqValue_tells v h) (ev_ite_pos rfl (ev_some fun _ => rfl)))
theorem eqR_l (l : List S26) (hl : l.length ≤ 1048576) (hr : ∀ x ∈ l, x.f1.length ≤ 1048576) : ∀ (d i : Nat), i + d = l.length → Ev (fun k => laws_eqRowS.l0 k l l (i : Int)) true
  | 0, i, h => ev_stop fun k => by rw [laws_eqRowS.l0, if_neg (by omega)]
  | d + 1, i, h => by
    have q := hr _ (ir_mem l i (by omega))
    have hx : rd_T26 l (i : Int) = l.getD i z26 := rfl
    refine Ev.step (f := fun k => (laws_eqRow.f k (l.getD i z26).f0 (l.getD i z26).f1 (l.getD i z26).f0 (l.getD i z26).f1).bind fun t => if t = true then laws_eqRowS.l0 k l l ((i + 1 : Nat) : Int) else some false) (fun k => ?_) (ev_bind (eqR1_tells _ _ (by omega)) (ev_ite_pos rfl (eqR_l l hl hr d (i + 1) (by omega))))
    rw [laws_eqRowS.l0, if_pos (by omega), if_pos (by omega), if_pos (by omega), hx, next i (by omega)]
theorem eqR_tells (l : List S26) (hl : l.length ≤ 1048576) (hr : ∀ x ∈ l, x.f1.length ≤ 1048576) : Ev (fun k => laws_eqRowS.f k l l) true := by
  refine Ev.congr (g := fun k => laws_eqRowS.f k l l) (fun k => ?_) (eqR_l l hl hr l.length 0 (by omega))
  unfold laws_eqRowS.f
  rw [if_pos rfl]
  rfl
def upVals (m : Int) : Nat → List S85
  | 0 => []
  | n + 1 => ⟨Int.tmod m 3 == 0, m + 1⟩ :: upVals (m + 2) n
theorem upVals_len (m : Int) : ∀ n, (upVals m n).length = n
  | 0 => rfl
  | n + 1 => by rw [upVals, List.length_cons, upVals_len (m + 2) n]
theorem rdV_set (l : List S85) (i : Nat) (v : S85) (h : i < l.length) : rd_T85 (l.set i v) i = v := by
  simp [rd_T85, List.getD, h]
theorem take_set_val (l : List S85) (i : Nat) (m : S85) (h : i < l.length) : (l.set i m).take (i + 1) = l.take i ++ [m] := by
  rw [List.take_succ_eq_append_getElem (by simpa using h), List.take_set_of_le (Nat.le_refl i)]
  simp
theorem markVal_l : ∀ (d i : Nat) (l : List S85) (m : Int), i + d = l.length → l.length ≤ 4611686018427387903 → 0 ≤ m → m + 2 * d ≤ 4611686018427387903 → Ev (fun k => laws_markValueS.l0 k l m (i : Int)) (m + 2 * d, l.take i ++ upVals m d)
  | 0, i, l, m, h, _, _, _ => ev_stop fun k => by
    rw [laws_markValueS.l0, if_neg (by omega), List.take_of_length_le (by omega)]
    simp [upVals]
  | d + 1, i, l, m, h, hl, hm, hb => by
    have ih := markVal_l d (i + 1) (l.set i ⟨Int.tmod m 3 == 0, m + 1⟩) (m + 2) (by rw [List.length_set]; omega) (by rw [List.length_set]; omega) (by omega) (by omega)
    rw [take_set_val l i _ (by omega), List.append_assoc] at ih
    have e : m + 2 + 2 * (d : Int) = m + 2 * ((d + 1 : Nat) : Int) := by omega
    rw [e] at ih
    exact ev_step ih fun k => by
      rw [laws_markValueS.l0, if_pos (by omega), if_pos (by omega)]
      simp only [Option.bind_some, Int.toNat_natCast]
      rw [rdV_set _ _ _ (by omega)]
      simp only [List.set_set]
      rw [w64 (i := m + 1) (by omega) (by omega), w64 (i := m + 1 + 1) (by omega) (by omega), next i (by omega), show m + 1 + 1 = m + 2 by omega]
theorem markVal_tells (l : List S85) (m : Int) (hm : 0 ≤ m) (hb : m ≤ 1000000000000) (hl : l.length ≤ 1048576) : Ev (fun k => laws_markValueS.f k l m) (m + 2 * l.length, upVals m l.length) := by
  have h := markVal_l l.length 0 l m (by omega) (by omega) (by omega) (by omega)
  rw [List.take_zero, List.nil_append] at h
  exact h
theorem heldVal_l (l : List S85) (hl : l.length ≤ 4611686018427387903) : ∀ (d i : Nat) (m : Int), i + d = l.length → l.drop i = upVals m d → 0 ≤ m → m + 2 * d ≤ 4611686018427387903 → Ev (fun k => laws_heldValueS.l0 k l m (i : Int)) (m + 2 * d)
  | 0, i, m, h, _, _, _ => ev_stop fun k => by
    rw [laws_heldValueS.l0, if_neg (by omega)]
    simp
  | d + 1, i, m, h, he, hm, hb => by
    rw [drop_val l i (by omega), upVals] at he
    injection he with e1 e2
    have ih := heldVal_l l hl d (i + 1) (m + 2) (by omega) e2 (by omega) (by omega)
    have e : m + 2 + 2 * (d : Int) = m + 2 * ((d + 1 : Nat) : Int) := by omega
    rw [e] at ih
    exact ev_step ih fun k => by
      rw [laws_heldValueS.l0, if_pos (by omega), if_pos (by omega), e1, if_neg (by simp), w64 (i := m + 1) (by omega) (by omega), if_pos rfl, w64 (i := m + 1 + 1) (by omega) (by omega), next i (by omega), show m + 1 + 1 = m + 2 by omega]
theorem heldVal_tells (m : Int) (n : Nat) (hm : 0 ≤ m) (hb : m ≤ 1000000000000) (hn : n ≤ 1048576) : Ev (fun k => laws_heldValueS.f k (upVals m n) m) (m + 2 * n) := by
  have h := heldVal_l (upVals m n) (by rw [upVals_len]; omega) n 0 m (by rw [upVals_len]; omega) (by simp) hm (by omega)
  exact h
/-- What marking leaves of a list of rows. -/
def upRows : Int → List S26 → List S26
  | _, [] => []
  | m, x :: r => ⟨m, upVals (m + 1) x.f1.length⟩ :: upRows (m + 1 + 2 * x.f1.length) r
theorem take_set_row (l : List S26) (i : Nat) (m : S26) (h : i < l.length) : (l.set i m).take (i + 1) = l.take i ++ [m] := by
  rw [List.take_succ_eq_append_getElem (by simpa using h), List.take_set_of_le (Nat.le_refl i)]
  simp
theorem drop_set_row (l : List S26) (i : Nat) (m : S26) : (l.set i m).drop (i + 1) = l.drop (i + 1) := List.drop_set_of_lt (by omega)
theorem markR_l : ∀ (d i : Nat) (l : List S26) (m : Int), i + d = l.length → l.length ≤ 1048576 → (∀ x ∈ l.drop i, x.f1.length ≤ 1048576) → 0 ≤ m → m + rsum (l.drop i) ≤ 1000000000 → Ev (fun k => laws_markRowS.l0 k l m (i : Int)) (m + rsum (l.drop i), l.take i ++ upRows m (l.drop i))
  | 0, i, l, m, h, _, _, _, _ => ev_stop fun k => by
    rw [laws_markRowS.l0, if_neg (by omega), List.take_of_length_le (by omega), List.drop_of_length_le (by omega)]
    simp [upRows, rsum]
  | d + 1, i, l, m, h, hl, hr, hm, hb => by
    rw [drop_ir l i (by omega)] at hr hb ⊢
    have q := hr _ (List.mem_cons_self ..)
    generalize hx : l.getD i z26 = x at hr hb q ⊢
    rw [rsum] at hb
    have e1 := markVal_tells x.f1 (m + 1) (by omega) (by omega) q
    have ih := markR_l d (i + 1) (l.set i (⟨m, upVals (m + 1) x.f1.length⟩ : S26)) (m + 1 + 2 * x.f1.length) (by rw [List.length_set]; omega) (by rw [List.length_set]; omega) (by rw [drop_set_row]; exact fun y hy => hr y (List.mem_cons_of_mem _ hy)) (by omega) (by rw [drop_set_row]; omega)
    rw [drop_set_row, take_set_row l i _ (by omega), List.append_assoc] at ih
    rw [rsum, upRows]
    have e : m + 1 + 2 * (x.f1.length : Int) + (rsum (l.drop (i + 1)) : Int) = m + ((1 + 2 * x.f1.length + rsum (l.drop (i + 1)) : Nat) : Int) := by omega
    rw [e] at ih
    refine Ev.step (f := fun k => (laws_markValueS.f k x.f1 (m + 1)).bind fun b2 => laws_markRowS.l0 k (l.set i (⟨m, b2.2⟩ : S26)) b2.1 ((i + 1 : Nat) : Int)) (fun k => ?_) (ev_bind e1 ih)
    rw [laws_markRowS.l0, if_pos (by omega), if_pos (by omega), Int.toNat_natCast, hx, w64 (i := m + 1) (by omega) (by omega), next i (by omega)]
theorem markR_tells (l : List S26) (m : Int) (hl : l.length ≤ 1048576) (hr : ∀ x ∈ l, x.f1.length ≤ 1048576) (hm : 0 ≤ m) (hb : m + rsum l ≤ 1000000000) : Ev (fun k => laws_markRowS.f k l m) (m + rsum l, upRows m l) := by
  have h := markR_l l.length 0 l m (by omega) hl (by rw [List.drop_zero]; exact hr) hm (by rw [List.drop_zero]; exact hb)
  rw [List.take_zero, List.nil_append, List.drop_zero] at h
  exact h

def rowB (x : S26) : Bool := x.f1.all goodVal && (inB 0 999 x.f0 && decide (x.f1.length = 3))
def okRow (l : List S26) (i : Nat) : Bool := rowB (l.getD i z26) && (decide (i = 0) || decide ((l.getD (i - 1) z26).f0 < (l.getD i z26).f0))
def tableB (l : List S26) : Bool := (List.range l.length).all (okRow l) && decide (l.length ≤ 20)
theorem w_pred (i : Nat) (h0 : 0 < i) (h : i < 4611686018427387904) : wrap64 ((i : Int) - 1) = ((i - 1 : Nat) : Int) := by
  rw [w64 (by omega) (by omega)]
  omega
theorem stable_tells (l : List S26) (hl : l.length ≤ 1048576) (hr : ∀ x ∈ l, x.f1.length ≤ 1048576) : Ev (fun k => spec_GoodTable.f k l) (tableB l) := by
  have round : ∀ (i : Nat), i < l.length → ∀ q, Ev (fun k => if okRow l i = true then spec_GoodTable.l0 k l l (l.length : Int) ((i + 1 : Nat) : Int) else some false) q → Ev (fun k => spec_GoodTable.l0 k l l (l.length : Int) (i : Int)) q := by
    intro i hi q hq
    have hx : rd_T26 l (i : Int) = l.getD i z26 := rfl
    refine Ev.step (f := fun k => (spec_l2Row.f k (l.getD i z26).f0 (l.getD i z26).f1).bind fun t => if t = true then (if (i : Int) > 0 then (if 0 ≤ wrap64 ((i : Int) - 1) then (if wrap64 ((i : Int) - 1) < (l.length : Int) then (if (rd_T26 l (wrap64 ((i : Int) - 1))).f0 ≥ (l.getD i z26).f0 then some false else spec_GoodTable.l0 k l l (l.length : Int) ((i + 1 : Nat) : Int)) else none) else none) else spec_GoodTable.l0 k l l (l.length : Int) ((i + 1 : Nat) : Int)) else some false) (fun k => ?_) (ev_bind (srow_tells _ _ (hr _ (ir_mem l i hi))) ?_)
    · rw [spec_GoodTable.l0, if_pos (by omega), if_pos (by omega), if_pos (by omega), hx, next i (by omega)]
    · unfold okRow rowB at hq
      cases hB : ((l.getD i z26).f1.all goodVal && (inB 0 999 (l.getD i z26).f0 && decide ((l.getD i z26).f1.length = 3))) with
      | false =>
        rw [hB] at hq
        exact ev_ite_neg (by simp) (by simpa using hq)
      | true =>
        rw [hB, Bool.true_and] at hq
        refine ev_ite_pos rfl ?_
        by_cases h0 : i = 0
        · subst h0
          exact ev_ite_neg (by simp) (by simpa using hq)
        · rw [w_pred i (by omega) (by omega)]
          refine ev_ite_pos (by omega) (ev_ite_pos (by omega) (ev_ite_pos (by omega) ?_))
          have hy : rd_T26 l ((i - 1 : Nat) : Int) = l.getD (i - 1) z26 := rfl
          rw [hy]
          rw [decide_eq_false h0, Bool.false_or] at hq
          by_cases hc : (l.getD (i - 1) z26).f0 < (l.getD i z26).f0
          · rw [decide_eq_true hc] at hq
            exact ev_ite_neg (by omega) (by simpa using hq)
          · rw [decide_eq_false hc] at hq
            exact ev_ite_pos (by omega) (by simpa using hq)
  exact all_from (F := fun k i => spec_GoodTable.l0 k l l (l.length : Int) (i : Int)) (p := okRow l) (r := decide (l.length ≤ 20)) (n := l.length) (ev_stop fun k => by rw [spec_GoodTable.l0, if_neg (by omega)]; congr 1; rw [Bool.eq_iff_iff]; simp; omega) (fun i hi hp q hq => round i hi q (ev_ite_pos hp hq)) (fun i hi hp => round i hi _ (ev_ite_neg (by rw [hp]; decide) (ev_some fun _ => rfl)))
theorem itable_tells (l : List S26) (hl : l.length ≤ 1048576) (hr : ∀ x ∈ l, x.f1.length ≤ 1048576) : Ev (fun k => impl_GoodTable.f k l) (tableB l) := by
  have round : ∀ (i : Nat), i < l.length → ∀ q, Ev (fun k => if okRow l i = true then impl_GoodTable.l0 k l l (l.length : Int) ((i + 1 : Nat) : Int) else some false) q → Ev (fun k => impl_GoodTable.l0 k l l (l.length : Int) (i : Int)) q := by
    intro i hi q hq
    have hx : rd_T26 l (i : Int) = l.getD i z26 := rfl
    refine Ev.step (f := fun k => (impl_isRow.f k (l.getD i z26).f0 (l.getD i z26).f1).bind fun t => if t = true then (if (i : Int) > 0 then (if 0 ≤ wrap64 ((i : Int) - 1) then (if wrap64 ((i : Int) - 1) < (l.length : Int) then (if (rd_T26 l (wrap64 ((i : Int) - 1))).f0 ≥ (l.getD i z26).f0 then some false else impl_GoodTable.l0 k l l (l.length : Int) ((i + 1 : Nat) : Int)) else none) else none) else impl_GoodTable.l0 k l l (l.length : Int) ((i + 1 : Nat) : Int)) else some false) (fun k => ?_) (ev_bind (irow_tells _ _ (hr _ (ir_mem l i hi))) ?_)
    · rw [impl_GoodTable.l0, if_pos (by omega), if_pos (by omega), if_pos (by omega), hx, next i (by omega)]
    · unfold okRow rowB at hq
      cases hB : ((l.getD i z26).f1.all goodVal && (inB 0 999 (l.getD i z26).f0 && decide ((l.getD i z26).f1.length = 3))) with
      | false =>
        rw [hB] at hq
        exact ev_ite_neg (by simp) (by simpa using hq)
      | true =>
        rw [hB, Bool.true_and] at hq
        refine ev_ite_pos rfl ?_
        by_cases h0 : i = 0
        · subst h0
          exact ev_ite_neg (by simp) (by simpa using hq)
        · rw [w_pred i (by omega) (by omega)]
          refine ev_ite_pos (by omega) (ev_ite_pos (by omega) (ev_ite_pos (by omega) ?_))
          have hy : rd_T26 l ((i - 1 : Nat) : Int) = l.getD (i - 1) z26 := rfl
          rw [hy]
          rw [decide_eq_false h0, Bool.false_or] at hq
          by_cases hc : (l.getD (i - 1) z26).f0 < (l.getD i z26).f0
          · rw [decide_eq_true hc] at hq
            exact ev_ite_neg (by omega) (by simpa using hq)
          · rw [decide_eq_false hc] at hq
            exact ev_ite_pos (by omega) (by simpa using hq)
  exact all_from (F := fun k i => impl_GoodTable.l0 k l l (l.length : Int) (i : Int)) (p := okRow l) (r := decide (l.length ≤ 20)) (n := l.length) (ev_stop fun k => by rw [impl_GoodTable.l0, if_neg (by omega)]; congr 1; rw [Bool.eq_iff_iff]; simp; omega) (fun i hi hp q hq => round i hi q (ev_ite_pos hp hq)) (fun i hi hp => round i hi _ (ev_ite_neg (by rw [hp]; decide) (ev_some fun _ => rfl)))
theorem tableB_row {l : List S26} (h : tableB l = true) (i : Nat) (hi : i < l.length) : 0 ≤ (l.getD i z26).f0 ∧ (l.getD i z26).f0 ≤ 999 ∧ (l.getD i z26).f1.length = 3 ∧ (0 < i → (l.getD (i - 1) z26).f0 < (l.getD i z26).f0) := by
  unfold tableB at h
  rw [Bool.and_eq_true, List.all_eq_true] at h
  have h2 := h.1 i (List.mem_range.2 hi)
  unfold okRow rowB inB at h2
  simp only [Bool.and_eq_true, Bool.or_eq_true, decide_eq_true_eq] at h2
  obtain ⟨⟨_, ⟨h3, h4⟩, h5⟩, h6⟩ := h2
  exact ⟨h3, h4, h5, fun h0 => h6.resolve_left (by omega)⟩
theorem tableB_len {l : List S26} (h : tableB l = true) : l.length ≤ 20 := by
  unfold tableB at h
  simp only [Bool.and_eq_true, decide_eq_true_eq] at h
  exact h.2
theorem tableB_lt {l : List S26} (h : tableB l = true) : ∀ (d i : Nat), i + d + 1 < l.length + 0 → (l.getD i z26).f0 < (l.getD (i + d + 1) z26).f0
  | 0, i, hi => (tableB_row h (i + 1) (by omega)).2.2.2 (by omega)
  | d + 1, i, hi => by
    have h1 := tableB_lt h d i (by omega)
    have h2 := (tableB_row h (i + d + 1 + 1) (by omega)).2.2.2 (by omega)
    have e : i + d + 1 + 1 - 1 = i + d + 1 := by omega
    rw [e] at h2
    have e2 : i + (d + 1) + 1 = i + d + 1 + 1 := by omega
    rw [e2]
    omega

theorem rsum_filter (q : S26 → Bool) : ∀ l : List S26, rsum (l.filter q) ≤ rsum l
  | [] => Nat.le_refl _
  | x :: r => by
    have ih := rsum_filter q r
    rw [List.filter_cons]
    split
    · rw [rsum, rsum]; omega
    · rw [rsum]; omega
theorem heldR_l : ∀ (xs l : List S26) (i : Nat) (m : Int), l.length ≤ 1048576 → i + xs.length = l.length → l.drop i = upRows m xs → (∀ x ∈ xs, x.f1.length ≤ 1048576) → 0 ≤ m → m + rsum xs ≤ 1000000000 → Ev (fun k => laws_heldRowS.l0 k l m (i : Int)) (m + rsum xs)
  | [], l, i, m, _, h, _, _, _, _ => ev_stop fun k => by
    rw [laws_heldRowS.l0, if_neg (by simp at h; omega)]
    simp [rsum]
  | x :: r, l, i, m, hl, h, he, hr, hm, hb => by
    have hi : i < l.length := by simp at h; omega
    have q := hr _ (List.mem_cons_self ..)
    rw [drop_ir l i hi, upRows] at he
    injection he with e1 e2
    rw [rsum] at hb ⊢
    have hv := heldVal_tells (m + 1) x.f1.length (by omega) (by omega) q
    have ih := heldR_l r l (i + 1) (m + 1 + 2 * x.f1.length) hl (by simp at h; omega) e2 (fun y hy => hr y (List.mem_cons_of_mem _ hy)) (by omega) (by omega)
    have e : m + 1 + 2 * (x.f1.length : Int) + (rsum r : Int) = m + ((1 + 2 * x.f1.length + rsum r : Nat) : Int) := by omega
    rw [e] at ih
    have hx : rd_T26 l (i : Int) = (⟨m, upVals (m + 1) x.f1.length⟩ : S26) := e1
    refine Ev.step (f := fun k => (laws_heldValueS.f k (upVals (m + 1) x.f1.length) (m + 1)).bind fun t => if t < 0 then some (-1) else laws_heldRowS.l0 k l t ((i + 1 : Nat) : Int)) (fun k => ?_) (ev_bind hv (ev_ite_neg (by omega) ih))
    rw [laws_heldRowS.l0, if_pos (by omega), if_pos (by omega), hx, if_pos rfl, w64 (i := m + 1) (by omega) (by omega), next i (by omega)]
theorem upRows_len : ∀ (xs : List S26) (m : Int), (upRows m xs).length = xs.length
  | [], _ => rfl
  | x :: r, m => by rw [upRows, List.length_cons, List.length_cons, upRows_len r]
theorem heldR_tells (xs : List S26) (m : Int) (hl : xs.length ≤ 1048576) (hr : ∀ x ∈ xs, x.f1.length ≤ 1048576) (hm : 0 ≤ m) (hb : m + rsum xs ≤ 1000000000) : Ev (fun k => laws_heldRowS.f k (upRows m xs) m) (m + rsum xs) := by
  have h := heldR_l xs (upRows m xs) 0 m (by rw [upRows_len]; exact hl) (by rw [upRows_len]; omega) rfl hr hm hb
  exact h

/-- What holds from some number of rounds on. -/
def Evs (P : Nat → Prop) : Prop := ∃ K, ∀ k, K ≤ k → P k
theorem Evs.and {P Q : Nat → Prop} (h : Evs P) (h2 : Evs Q) : Evs (fun k => P k ∧ Q k) := by
  obtain ⟨K, hK⟩ := h
  obtain ⟨L, hL⟩ := h2
  exact ⟨max K L, fun k hk => ⟨hK k (by omega), hL k (by omega)⟩⟩
theorem Evs.of {P : Prop} (h : P) : Evs (fun _ => P) := ⟨0, fun _ _ => h⟩
theorem Evs.ev {α : Type} {g : Nat → Option α} {r : α} (h : Ev g r) : Evs (fun k => g k = some r) := h
theorem Evs.now {P : Nat → Prop} (h : Evs P) : ∃ k, P k := by
  obtain ⟨K, hK⟩ := h
  exact ⟨K, hK K (Nat.le_refl _)⟩
theorem Evs.mono {P Q : Nat → Prop} (h : Evs P) (hq : ∀ k, P k → Q k) : Evs Q := by
  obtain ⟨K, hK⟩ := h
  exact ⟨K, fun k hk => hq k (hK k hk)⟩

theorem scopy_tells (a : Int) (v : List S85) (h : v.length ≤ 1048576) : spec_l2Copy.f a v = some (a, v) := by
  unfold spec_l2Copy.f
  rw [Option.bind_some, if_pos (by simp; omega), List.nil_append]
theorem sown_l (l : List S26) (hl : l.length ≤ 1048576) (hr : ∀ x ∈ l, x.f1.length ≤ 1048576) : ∀ (d i : Nat) (acc : List S26), i + d = l.length → acc.length = i → Ev (fun k => spec_l2Own.l0 k acc l (l.length : Int) (i : Int)) (acc ++ l.drop i)
  | 0, i, acc, h, _ => ev_stop fun k => by rw [spec_l2Own.l0, if_neg (by omega), List.drop_of_length_le (by omega), List.append_nil]
  | d + 1, i, acc, h, ha => by
    have hx : rd_T26 l (i : Int) = l.getD i z26 := rfl
    have ih := sown_l l hl hr d (i + 1) (acc ++ [l.getD i z26]) (by omega) (by simp; omega)
    rw [List.append_assoc, List.singleton_append, ← drop_ir l i (by omega)] at ih
    refine ev_step ih fun k => ?_
    rw [spec_l2Own.l0, if_pos (by omega), if_pos (by omega), if_pos (by omega), hx, scopy_tells _ _ (hr _ (ir_mem l i (by omega))), Option.bind_some, if_pos (by omega), next i (by omega)]
theorem sown_tells (l : List S26) (hl : l.length ≤ 1048576) (hr : ∀ x ∈ l, x.f1.length ≤ 1048576) : Ev (fun k => spec_l2Own.f k l) l := sown_l l hl hr l.length 0 [] (by omega) rfl
theorem iclone_l (l : List S26) (hl : l.length ≤ 1048576) (hr : ∀ x ∈ l, x.f1.length ≤ 1048576) (hp : ∀ x ∈ l, 0 < x.f1.length) : ∀ (d i : Nat) (acc : List S26), i + d = l.length → acc.length = i → Ev (fun k => impl_clonedRows.l0 k acc l (l.length : Int) (i : Int)) (acc ++ l.drop i)
  | 0, i, acc, h, _ => ev_stop fun k => by rw [impl_clonedRows.l0, if_neg (by omega), List.drop_of_length_le (by omega), List.append_nil]
  | d + 1, i, acc, h, ha => by
    have hx : rd_T26 l (i : Int) = l.getD i z26 := rfl
    have ih := iclone_l l hl hr hp d (i + 1) (acc ++ [l.getD i z26]) (by omega) (by simp; omega)
    rw [List.append_assoc, List.singleton_append, ← drop_ir l i (by omega)] at ih
    refine ev_step ih fun k => ?_
    have hc : impl_Row_cloned.f (l.getD i z26).f0 (l.getD i z26).f1 = some ((l.getD i z26).f0, (l.getD i z26).f1) := by
      have := hr _ (ir_mem l i (by omega))
      have := hp _ (ir_mem l i (by omega))
      unfold impl_Row_cloned.f impl_Value.f
      rw [if_pos (by omega)]
      rfl
    rw [impl_clonedRows.l0, if_pos (by omega), if_pos (by omega), if_pos (by omega), hx, hc, Option.bind_some, if_pos (by omega), next i (by omega)]
theorem iclone_tells (l : List S26) (hl : l.length ≤ 1048576) (hr : ∀ x ∈ l, x.f1.length ≤ 1048576) (hp : ∀ x ∈ l, 0 < x.f1.length) : Ev (fun k => impl_clonedRows.f k l) l := iclone_l l hl hr hp l.length 0 [] (by omega) rfl
theorem inside (a b x : Int) : spec_l1In.f x a b = some (!(decide (x < a) || decide (b < x))) := by
  unfold spec_l1In.f
  by_cases h : x ≥ a
  · rw [if_pos h, decide_eq_false (show ¬ x < a by omega), Bool.false_or]
    by_cases h2 : x ≤ b
    · rw [decide_eq_true h2, decide_eq_false (show ¬ b < x by omega)]; rfl
    · rw [decide_eq_false h2, decide_eq_true (show b < x by omega)]; rfl
  · rw [if_neg h, decide_eq_true (show x < a by omega)]; rfl
theorem srange_l (a b : Int) (l : List S26) (hl : l.length ≤ 1048576) (hr : ∀ x ∈ l, x.f1.length ≤ 1048576) : ∀ (d i : Nat) (acc : List S26), i + d = l.length → acc.length ≤ i → (∀ x ∈ acc, x.f1.length ≤ 1048576) → Ev (fun k => spec_RangeOf.l0 k a b acc l (l.length : Int) (i : Int)) (acc ++ (l.drop i).filter fun x => !(decide (x.f0 < a) || decide (b < x.f0)), true)
  | 0, i, acc, h, h2, h3 => by
    have h1 := sown_tells acc (by omega) h3
    rw [List.drop_of_length_le (by omega), List.filter_nil, List.append_nil]
    refine Ev.step (f := fun k => (spec_l2Own.f k acc).bind fun t => some (t, true)) (fun k => ?_) (ev_bind h1 (ev_some fun _ => rfl))
    rw [spec_RangeOf.l0, if_neg (by omega)]
  | d + 1, i, acc, h, h2, h3 => by
    have hx : rd_T26 l (i : Int) = l.getD i z26 := rfl
    rw [drop_ir l i (by omega), List.filter_cons]
    cases hq : !(decide ((l.getD i z26).f0 < a) || decide (b < (l.getD i z26).f0)) with
    | true =>
      have ih := srange_l a b l hl hr d (i + 1) (acc ++ [l.getD i z26]) (by omega) (by simp; omega) (fun x hx => by
        rcases List.mem_append.1 hx with h | h
        · exact h3 x h
        · rw [List.mem_singleton.1 h]; exact hr _ (ir_mem l i (by omega)))
      rw [List.append_assoc, List.singleton_append] at ih
      rw [if_pos rfl]
      refine ev_step ih fun k => ?_
      rw [spec_RangeOf.l0, if_pos (by omega), if_pos (by omega), if_pos (by omega), hx, inside, hq, Option.bind_some, if_pos rfl, if_pos (by omega), next i (by omega)]
    | false =>
      have ih := srange_l a b l hl hr d (i + 1) acc (by omega) (by omega) h3
      rw [if_neg (by decide)]
      refine ev_step ih fun k => ?_
      rw [spec_RangeOf.l0, if_pos (by omega), if_pos (by omega), if_pos (by omega), hx, inside, hq, Option.bind_some, if_neg (by decide), next i (by omega)]
theorem range_same (l : List S26) (a b : Int) (hl : l.length ≤ 1048576) (hr : ∀ x ∈ l, x.f1.length ≤ 1048576) : ∃ (v : List S26) (o : Bool), Ev (fun k => spec_RangeOf.f k l a b) (v, o) ∧ Ev (fun k => impl_RangeOf.f k l a b) (v, o) ∧ v.length ≤ l.length ∧ rsum v ≤ rsum l ∧ ∀ x ∈ v, x.f1.length ≤ 1048576 := by
  have hS := stable_tells l hl hr
  have hI := itable_tells l hl hr
  unfold spec_RangeOf.f impl_RangeOf.f
  cases hT : tableB l with
  | false =>
    rw [hT] at hS hI
    exact ⟨[], false, ev_bind hS (ev_ite_neg (by simp) (ev_some fun _ => rfl)), ev_bind hI (ev_ite_neg (by simp) (ev_some fun _ => rfl)), by simp, Nat.zero_le _, by simp⟩
  | true =>
    rw [hT] at hS hI
    have h20 := tableB_len hT
    have hp : ∀ x ∈ l, 0 < x.f1.length := fun x hx => by
      obtain ⟨j, hj, rfl⟩ := List.mem_iff_getElem.1 hx
      have := (tableB_row hT j hj).2.2.1
      rw [show l.getD j z26 = l[j] from by simp [List.getD, List.getElem?_eq_getElem hj]] at this
      omega
    refine ⟨l.filter fun x => !(decide (x.f0 < a) || decide (b < x.f0)), true, ev_bind hS (ev_ite_pos rfl (srange_l a b l hl hr l.length 0 [] (by omega) (by simp) (by simp))), ev_bind hI (ev_ite_pos rfl (ev_bind (iclone_tells l hl hr hp) (ev_ite_pos (by omega) (ev_some fun _ => rfl)))), List.length_filter_le _ _, rsum_filter _ _, fun x hx => hr x ((List.mem_filter.1 hx).1)⟩
theorem FnExactRangeOf : laws_FnExactRangeOf.Good := by
  rintro l0 a b ⟨hm, hg⟩ _ _
  unfold laws_FnExactRangeOf.Pass
  have hrow : ∀ x ∈ l0, x.f1.length ≤ maxLen := fun x hx => ((hg x hx).2).1
  obtain ⟨t, ht, hb⟩ := szr_tells l0 hm hrow
  by_cases hn : t < 0
  · exact ((Evs.ev ht).mono fun k h => ⟨t, h, .inl hn⟩).now
  have hb := hb (by omega)
  have hr0 : ∀ x ∈ l0, x.f1.length ≤ 1048576 := fun x hx => by have := vsumL_mem l0 x hx; omega
  have hT := toR_tells l0 (by omega) hr0
  have hsum := rsum_conv l0
  have hlen : (l0.map convR).length ≤ 1048576 := by simp; omega
  have hr : ∀ x ∈ l0.map convR, x.f1.length ≤ 1048576 := fun x hx => by
    have := rsum_mem _ x hx
    omega
  generalize l0.map convR = u at hT hsum hlen hr
  obtain ⟨v, o, hs, hi, hv1, hv2, hv3⟩ := range_same u a b hlen hr
  have m0 := markR_tells u 1 hlen hr (by omega) (by omega)
  have m1 := markR_tells v 1 (by omega) hv3 (by omega) (by omega)
  have hh := heldR_tells v 1 (by omega) hv3 (by omega) (by omega)
  exact (((Evs.ev ht).and ((Evs.ev hT).and ((Evs.ev hs).and ((Evs.ev hi).and ((Evs.ev (eqR_tells v (by omega) hv3)).and ((Evs.ev (eqR_tells u hlen hr)).and ((Evs.ev m0).and ((Evs.ev m1).and (Evs.ev hh))))))))).mono fun k ⟨d0, d1, d2, d3, d4, d5, d6, d7, d8⟩ => ⟨t, d0, .inr ⟨hn, u, v, o, _, _, _, _, d1, d2, d3, d4, d5, d6, d7, d8, by omega, by omega⟩⟩).now

end Go.Proofs.Ytcihgepinnajjaa.Pure
