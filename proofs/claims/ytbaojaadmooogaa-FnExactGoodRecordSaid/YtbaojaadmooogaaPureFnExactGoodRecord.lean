/- The law FnExactGoodRecord: the program's function tells what the reference tells, for all arguments; here: of the two as plain functions of numbers and lists. -/
import Derived.Test.YtbaojaadmooogaaQFnExactGoodRecord
namespace Go.Proofs.Ytbaojaadmooogaa.Pure
open Go.RowKit Go.Proofs.Ytbaojaadmooogaa.PFnExactGoodRecord Go.Proofs.YtbaojaadmooogaaW.PrintWords Go.Proofs.YtbaojaadmooogaaW.PrintLast Go.Proofs.YtbaojaadmooogaaW.PrintMore
set_option linter.unusedVariables false
set_option linter.unusedSimpArgs false
set_option linter.unnecessarySimpa false

theorem w64 {i : Int} (h0 : -9223372036854775808 ≤ i) (h1 : i ≤ 9223372036854775807) : wrap64 i = i := by
  unfold wrap64
  omega

theorem rdn (l : List Int) (i : Nat) : rd l (i : Int) = l.getD i 0 := by simp [rd]

/-- A round of a loop, then what it comes to. -/
theorem ev_step {α : Type} {g f : Nat → Option α} {r : α} (k : Ev f r) (h : ∀ k, g (k + 1) = f k) : Ev g r := Ev.step h k
theorem ev_some {α : Type} {g : Nat → Option α} {r : α} (h : ∀ k, g k = some r) : Ev g r := ⟨0, fun k _ => h k⟩
theorem ev_stop {α : Type} {g : Nat → Option α} {r : α} (h : ∀ k, g (k + 1) = some r) : Ev g r := Ev.step h (Ev.now r)
theorem ev_bind {α β : Type} {g : Nat → Option α} {f : Nat → α → Option β} {a : α} {r : β} (h : Ev g a) (k : Ev (fun n => f n a) r) : Ev (fun n => (g n).bind (f n)) r := Ev.bind h k
theorem ev_some_bind {α β : Type} {g : Option α} {f : Nat → α → Option β} {a : α} {r : β} (h : g = some a) (k : Ev (fun n => f n a) r) : Ev (fun n => g.bind (f n)) r := by
  subst h
  exact k
theorem ev_ite_pos {α : Type} {c : Prop} [Decidable c] {g f : Nat → Option α} {r : α} (hc : c) (h : Ev g r) : Ev (fun n => if c then g n else f n) r := Ev.congr (fun _ => if_pos hc) h
theorem ev_ite_neg {α : Type} {c : Prop} [Decidable c] {g f : Nat → Option α} {r : α} (hc : ¬ c) (h : Ev f r) : Ev (fun n => if c then g n else f n) r := Ev.congr (fun _ => if_neg hc) h

def inB (a b x : Int) : Bool := decide (a ≤ x) && decide (x ≤ b)
theorem drop_at (l : List Int) (i : Nat) (h : i < l.length) : l.drop i = l.getD i 0 :: l.drop (i + 1) := by
  rw [List.drop_eq_getElem_cons h]
  simp [List.getD, List.getElem?_eq_getElem h]
/-- What a search for a fault comes to, round by round. -/
theorem all_ends {F : Nat → Nat → Option Bool} {p : Nat → Bool} {r : Bool} {n : Nat} (stop : Ev (fun k => F k n) r) (go : ∀ i, i < n → p i = true → ∀ q, Ev (fun k => F k (i + 1)) q → Ev (fun k => F k i) q) (no : ∀ i, i < n → p i = false → Ev (fun k => F k i) false) :
    ∀ (d i : Nat), i + d = n → Ev (fun k => F k i) ((List.range' i d).all p && r)
  | 0, i, h => by
    obtain rfl : i = n := by omega
    simpa using stop
  | d + 1, i, h => by
    have ih := all_ends stop go no d (i + 1) (by omega)
    rw [List.range'_succ, List.all_cons, Bool.and_assoc]
    cases hp : p i with
    | true => simpa using go i (by omega) hp _ ih
    | false => simpa using no i (by omega) hp
theorem all_from {F : Nat → Nat → Option Bool} {p : Nat → Bool} {r : Bool} {n : Nat} (stop : Ev (fun k => F k n) r) (go : ∀ i, i < n → p i = true → ∀ q, Ev (fun k => F k (i + 1)) q → Ev (fun k => F k i) q) (no : ∀ i, i < n → p i = false → Ev (fun k => F k i) false) :
    Ev (fun k => F k 0) ((List.range n).all p && r) := by
  rw [List.range_eq_range']
  exact all_ends stop go no n 0 (by omega)
theorem next (i : Nat) (h : i < 4611686018427387904) : wrap64 ((i : Int) + 1) = ((i + 1 : Nat) : Int) := by
  rw [w64 (by omega) (by omega)]
  omega

def convValue (x : S132) : S111 := ⟨x.f0, x.f1⟩
theorem drop_val (l : List S111) (i : Nat) (h : i < l.length) : l.drop i = rd_T111 l i :: l.drop (i + 1) := by
  rw [List.drop_eq_getElem_cons h]
  simp [rd_T111, List.getD, List.getElem?_eq_getElem h]
theorem toValue_l (l : List S132) (hl : l.length ≤ 4611686018427387903) : ∀ (d i : Nat) (m : List S111), m.length = l.length → i + d = l.length → m.take i = (l.map convValue).take i → Ev (fun k => laws_toValueS.l0 k l m (i : Int)) (l.map convValue)
  | 0, i, m, hm, h, ht => ev_stop fun k => by
    rw [laws_toValueS.l0, if_neg (by omega)]
    rw [List.take_of_length_le (by omega), List.take_of_length_le (by simp; omega)] at ht
    rw [ht]
  | d + 1, i, m, hm, h, ht => by
    refine ev_step (toValue_l l hl d (i + 1) (m.set i (convValue (l.getD i z132))) (by simpa using hm) (by omega) ?_) fun k => by
      rw [laws_toValueS.l0, if_pos (by omega), if_pos (by omega)]
      unfold laws_toValue.f
      rw [Option.bind_some, if_pos (by omega), next i (by omega)]
      rfl
    rw [List.take_succ_eq_append_getElem (by simp; omega), List.take_succ_eq_append_getElem (by simp; omega), List.take_set_of_le (Nat.le_refl i), ht]
    simp [List.getD, List.getElem?_eq_getElem (show i < l.length by omega)]
theorem toValue_tells (l : List S132) (hl : l.length ≤ 1048576) : Ev (fun k => laws_toValueS.f k l) (l.map convValue) := by
  refine Ev.congr (g := fun k => laws_toValueS.f k l) (fun k => ?_) (toValue_l l (by omega) l.length 0 (List.replicate l.length z111) (by simp) (by omega) (by simp))
  unfold laws_toValueS.f
  rw [if_pos (by omega), if_pos (by omega), Int.toNat_natCast]
  rfl
theorem eqValue_l (l : List S111) (hl : l.length ≤ 4611686018427387903) : ∀ (d i : Nat), i + d = l.length → Ev (fun k => laws_eqValueS.l0 k l l (i : Int)) true
  | 0, i, h => ev_stop fun k => by
    rw [laws_eqValueS.l0, if_neg (by omega)]
  | d + 1, i, h => by
    refine ev_step (eqValue_l l hl d (i + 1) (by omega)) fun k => by
      rw [laws_eqValueS.l0, if_pos (by omega), if_pos (by omega), if_pos (by omega)]
      unfold laws_eqValue.f
      simp [next i (by omega)]
theorem eqValue_tells (l : List S111) (hl : l.length ≤ 4611686018427387903) : Ev (fun k => laws_eqValueS.f k l l) true := by
  refine Ev.congr (g := fun k => laws_eqValueS.f k l l) (fun k => ?_) (eqValue_l l hl l.length 0 (by omega))
  unfold laws_eqValueS.f
  rw [if_pos rfl]
  rfl
theorem szvalue (l : List S132) (a : Int) (h0 : 0 ≤ a) (h1 : a ≤ 1048576) (hl : l.length ≤ maxLen) : laws_szValueS.f l a = some (if a < (l.length : Int) then -1 else a - (l.length : Int)) := by
  have hm : maxLen ≤ 9223372036854775807 := by decide
  unfold laws_szValueS.f
  rw [w64 (by omega) (by omega)]
  split <;> split <;> first | rfl | omega

theorem within_tells (a b c : Int) : impl_within.f a b c = some (decide (b ≤ a) && decide (a ≤ c)) := by
  unfold impl_within.f
  by_cases h : a ≥ b
  · rw [if_pos h]; simp [show b ≤ a from h]
  · rw [if_neg h]; simp [show ¬ b ≤ a from h]

theorem sin_tells (a b c : Int) : spec_l1In.f a b c = some (decide (b ≤ a) && decide (a ≤ c)) := by
  unfold spec_l1In.f
  by_cases h : a ≥ b
  · rw [if_pos h]; simp [show b ≤ a from h]
  · rw [if_neg h]; simp [show ¬ b ≤ a from h]

def goodVal (x : S111) : Bool := inB (-1000) 1000 x.f1 && (!x.f0 || decide (x.f1 = 0))
theorem sval_tells (x : S111) : spec_GoodValue.f x.f0 x.f1 = some (goodVal x) := by
  unfold spec_GoodValue.f goodVal
  rw [sin_tells, Option.bind_some]
  change (if inB (-1000) 1000 x.f1 = true then _ else _) = _
  cases inB (-1000) 1000 x.f1 with
  | false => rfl
  | true =>
    cases x.f0 with
    | false => rfl
    | true => rfl
theorem ival_tells (x : S111) : impl_GoodValue.f x.f0 x.f1 = some (goodVal x) := by
  unfold impl_GoodValue.f goodVal impl_isSmall.f
  rw [within_tells, Option.bind_some]
  cases x.f0 with
  | false => simp [inB]
  | true =>
    by_cases h : x.f1 = 0
    · simp [h, inB]
    · simp [h]
theorem srow_l (key : Int) (l m : List S111) (hl : l.length ≤ 1048576) : ∀ (d i : Nat), i + d = l.length → Ev (fun k => spec_l2Row.l0 k l (l.length : Int) (i : Int) key m) ((l.drop i).all goodVal && (inB 0 999 key && decide (m.length = 3)))
  | 0, i, h => ev_stop fun k => by
    rw [spec_l2Row.l0, if_neg (by omega), sin_tells, Option.bind_some, List.drop_of_length_le (by omega)]
    change (if inB 0 999 key = true then some ((m.length : Int) == 3) else some false) = _
    cases inB 0 999 key with
    | false => rfl
    | true =>
      rw [if_pos rfl]
      by_cases h3 : m.length = 3
      · simp [h3]
      · have : ((m.length : Int) == 3) = false := beq_eq_false_iff_ne.mpr (by omega)
        rw [this]
        simp [h3]
  | d + 1, i, h => by
    have ih := srow_l key l m hl d (i + 1) (by omega)
    rw [drop_val l i (by omega), List.all_cons, Bool.and_assoc]
    refine Ev.step (f := fun k => if goodVal (rd_T111 l i) = true then spec_l2Row.l0 k l (l.length : Int) ((i + 1 : Nat) : Int) key m else some false) (fun k => ?_) ?_
    · rw [spec_l2Row.l0, if_pos (by omega), if_pos (by omega), if_pos (by omega), sval_tells, Option.bind_some, next i (by omega)]
    · cases goodVal (rd_T111 l i) with
      | true => simpa using ih
      | false => exact ev_some fun k => by simp
theorem srow_tells (key : Int) (l : List S111) (hl : l.length ≤ 1048576) : Ev (fun k => spec_l2Row.f k key l) (l.all goodVal && (inB 0 999 key && decide (l.length = 3))) := by
  have h := srow_l key l l hl l.length 0 (by omega)
  rw [List.drop_zero] at h
  exact h
theorem ivals_l (l : List S111) (hl : l.length ≤ 1048576) : ∀ (d i : Nat), i + d = l.length → Ev (fun k => impl_areValues.l0 k l (l.length : Int) (i : Int)) ((l.drop i).all goodVal)
  | 0, i, h => ev_stop fun k => by
    rw [impl_areValues.l0, if_neg (by omega), List.drop_of_length_le (by omega)]
    rfl
  | d + 1, i, h => by
    have ih := ivals_l l hl d (i + 1) (by omega)
    rw [drop_val l i (by omega), List.all_cons]
    refine Ev.step (f := fun k => if goodVal (rd_T111 l i) = true then impl_areValues.l0 k l (l.length : Int) ((i + 1 : Nat) : Int) else some false) (fun k => ?_) ?_
    · rw [impl_areValues.l0, if_pos (by omega), if_pos (by omega), if_pos (by omega), ival_tells, Option.bind_some, next i (by omega)]
    · cases goodVal (rd_T111 l i) with
      | true => simpa using ih
      | false => exact ev_some fun k => by simp
theorem ikey_tells (key : Int) : impl_isKey.f key = some (inB 0 999 key) := by
  unfold impl_isKey.f
  rw [within_tells]
  rfl
theorem irow_tells (key : Int) (l : List S111) (hl : l.length ≤ 1048576) : Ev (fun k => impl_isRow.f k key l) (l.all goodVal && (inB 0 999 key && decide (l.length = 3))) := by
  unfold impl_isRow.f
  refine ev_some_bind (ikey_tells key) ?_
  cases inB 0 999 key with
  | false => exact ev_ite_neg (by simp) (ev_some fun _ => by simp)
  | true =>
    refine ev_ite_pos rfl ?_
    by_cases h3 : l.length = 3
    · have h := ivals_l l hl l.length 0 (by omega)
      rw [List.drop_zero] at h
      exact ev_ite_pos (by omega) (ev_bind h (ev_some fun _ => by simp [h3]))
    · exact ev_ite_neg (by omega) (ev_some fun _ => by simp [h3])

def recordB (no : Int) (dr : Bool) (key : Int) (l : List S111) : Bool := inB 1 200 no && (if dr = true then inB 0 999 key && decide (l.length = 0) else (l.all goodVal && (inB 0 999 key && decide (l.length = 3))))
theorem len0 (l : List S111) : ((l.length : Int) == 0) = decide (l.length = 0) := by
  by_cases h : l.length = 0
  · simp [h]
  · rw [decide_eq_false h]
    exact beq_eq_false_iff_ne.mpr (by omega)
theorem srecord_tells (no : Int) (dr : Bool) (key : Int) (l : List S111) (hl : l.length ≤ 1048576) : Ev (fun k => spec_GoodRecord.f k no dr key l) (recordB no dr key l) := by
  have s1 : spec_l1In.f no 1 200 = some (inB 1 200 no) := sin_tells no 1 200
  have s2 : spec_l1In.f key 0 999 = some (inB 0 999 key) := sin_tells key 0 999
  unfold spec_GoodRecord.f recordB
  rw [s1, s2]
  cases inB 1 200 no with
  | false => exact ev_some fun _ => rfl
  | true =>
    refine ev_some_bind rfl (ev_ite_pos rfl ?_)
    cases dr with
    | false => exact ev_ite_neg (by simp) (ev_bind (srow_tells key l hl) (ev_some fun _ => by simp))
    | true =>
      refine ev_ite_pos rfl (ev_some_bind rfl ?_)
      rw [len0]
      cases inB 0 999 key with
      | false => exact ev_some fun _ => rfl
      | true => exact ev_some fun _ => rfl
theorem irecord_tells (no : Int) (dr : Bool) (key : Int) (l : List S111) (hl : l.length ≤ 1048576) : Ev (fun k => impl_GoodRecord.f k no dr key l) (recordB no dr key l) := by
  have s1 : impl_within.f no 1 200 = some (inB 1 200 no) := within_tells no 1 200
  unfold impl_GoodRecord.f recordB
  rw [s1, ikey_tells]
  cases inB 1 200 no with
  | false => exact ev_some fun _ => rfl
  | true =>
    refine ev_some_bind rfl (ev_ite_pos rfl ?_)
    cases dr with
    | false => exact ev_ite_neg (by simp) (ev_bind (irow_tells key l hl) (ev_some fun _ => by simp))
    | true =>
      refine ev_ite_pos rfl (ev_some_bind rfl ?_)
      rw [len0]
      cases inB 0 999 key with
      | false => exact ev_some fun _ => rfl
      | true => exact ev_some fun _ => rfl
theorem FnExactGoodRecord : laws_FnExactGoodRecord.Good := by
  rintro ⟨no, dr, ⟨key, l0⟩⟩ ⟨_, _, _, ⟨hm, _⟩⟩
  simp only at hm
  refine Ev.rounds ?_
  unfold laws_FnExactGoodRecord.f
  have hsz : ∃ t, laws_szRecord.f no dr key l0 1048576 = some t ∧ (0 ≤ t → l0.length ≤ 1048576) := by
    unfold laws_szRecord.f laws_szRow.f
    rw [szvalue l0 _ (by omega) (by omega) hm, Option.bind_some]
    by_cases h : 1048576 < (l0.length : Int)
    · exact ⟨-1, by simp [h], by omega⟩
    · rw [if_neg h, if_neg (by omega), Option.bind_some, if_neg (by omega)]
      exact ⟨_, rfl, by omega⟩
  obtain ⟨z, hz, hzb⟩ := hsz
  refine ev_some_bind hz ?_
  by_cases hzn : z < 0
  · exact ev_ite_pos hzn (ev_some fun _ => rfl)
  refine ev_ite_neg hzn ?_
  have hl0 := hzb (by omega)
  have hR : Ev (fun k => laws_toRecord.f k no dr key l0) (no, dr, key, l0.map convValue) := by
    unfold laws_toRecord.f laws_toRow.f
    exact ev_bind (ev_bind (toValue_tells l0 hl0) (ev_some fun _ => rfl)) (ev_some fun _ => rfl)
  have hl : (l0.map convValue).length ≤ 1048576 := by simpa using hl0
  generalize l0.map convValue = t at hR hl
  have eR : Ev (fun k => laws_eqRecord.f k no dr key t no dr key t) true := by
    unfold laws_eqRecord.f laws_eqRow.f
    refine ev_ite_pos rfl (ev_ite_neg (by simp) (ev_bind (a := true) ?_ (ev_some fun _ => rfl)))
    exact ev_ite_pos rfl (ev_bind (eqValue_tells t (by omega)) (ev_some fun _ => rfl))
  refine ev_bind hR (ev_bind (srecord_tells no dr key t hl) (ev_bind hR (ev_bind (irecord_tells no dr key t hl) ?_)))
  exact ev_ite_neg (by simp) (ev_bind hR (ev_bind eR (ev_some fun _ => rfl)))

end Go.Proofs.Ytbaojaadmooogaa.Pure
