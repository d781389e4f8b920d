/- The law FnExactLogText: the program's function tells what the reference tells, for all arguments; here: of the two as plain functions of numbers and lists. -/
import Derived.Test.YtcihgepinnajjaaDoorQFnExactLogText
namespace Go.Proofs.YtcihgepinnajjaaDoor.Pure
open Go.RowKit Go.Proofs.YtcihgepinnajjaaDoor.PFnExactLogText Go.Proofs.YtcihgepinnajjaaDoorW.PrintWords Go.Proofs.YtcihgepinnajjaaDoorW.PrintLast Go.Proofs.YtcihgepinnajjaaDoorW.PrintMore
set_option linter.unusedVariables false
set_option linter.unusedSimpArgs false
set_option linter.unnecessarySimpa false

theorem w64 {i : Int} (h0 : -9223372036854775808 ≤ i) (h1 : i ≤ 9223372036854775807) : wrap64 i = i := by
  unfold wrap64
  omega

theorem rdn (l : List Int) (i : Nat) : rd l (i : Int) = l.getD i 0 := by simp [rd]

/-- A round of a loop, then what it comes to. -/
theorem ev_step {α : Type} {g f : Nat → Option α} {r : α} (k : Ev f r) (h : ∀ k, g (k + 1) = f k) : Ev g r := Ev.step h k
theorem ev_some {α : Type} {g : Nat → Option α} {r : α} (h : ∀ k, g k = some r) : Ev g r := ⟨0, fun k _ => h k⟩
theorem ev_stop {α : Type} {g : Nat → Option α} {r : α} (h : ∀ k, g (k + 1) = some r) : Ev g r := Ev.step h (Ev.now r)
theorem ev_bind {α β : Type} {g : Nat → Option α} {f : Nat → α → Option β} {a : α} {r : β} (h : Ev g a) (k : Ev (fun n => f n a) r) : Ev (fun n => (g n).bind (f n)) r := Ev.bind h k
theorem ev_some_bind {α β : Type} {g : Option α} {f : Nat → α → Option β} {a : α} {r : β} (h : g = some a) (k : Ev (fun n => f n a) r) : Ev (fun n => g.bind (f n)) r := by
  subst h
  exact k
theorem ev_ite_pos {α : Type} {c : Prop} [Decidable c] {g f : Nat → Option α} {r : α} (hc : c) (h : Ev g r) : Ev (fun n => if c then g n else f n) r := Ev.congr (fun _ => if_pos hc) h
theorem ev_ite_neg {α : Type} {c : Prop} [Decidable c] {g f : Nat → Option α} {r : α} (hc : ¬ c) (h : Ev f r) : Ev (fun n => if c then g n else f n) r := Ev.congr (fun _ => if_neg hc) h

def inB (a b x : Int) : Bool := decide (a ≤ x) && decide (x ≤ b)
theorem drop_at (l : List Int) (i : Nat) (h : i < l.length) : l.drop i = l.getD i 0 :: l.drop (i + 1) := by
  rw [List.drop_eq_getElem_cons h]
  simp [List.getD, List.getElem?_eq_getElem h]
/-- What a search for a fault comes to, round by round. -/
theorem all_ends {F : Nat → Nat → Option Bool} {p : Nat → Bool} {r : Bool} {n : Nat} (stop : Ev (fun k => F k n) r) (go : ∀ i, i < n → p i = true → ∀ q, Ev (fun k => F k (i + 1)) q → Ev (fun k => F k i) q) (no : ∀ i, i < n → p i = false → Ev (fun k => F k i) false) :
    ∀ (d i : Nat), i + d = n → Ev (fun k => F k i) ((List.range' i d).all p && r)
  | 0, i, h => by
    obtain rfl : i = n := by omega
    simpa using stop
  | d + 1, i, h => by
    have ih := all_ends stop go no d (i + 1) (by omega)
    rw [List.range'_succ, List.all_cons, Bool.and_assoc]
    cases hp : p i with
    | true => simpa using go i (by omega) hp _ ih
    | false => simpa using no i (by omega) hp
theorem all_from {F : Nat → Nat → Option Bool} {p : Nat → Bool} {r : Bool} {n : Nat} (stop : Ev (fun k => F k n) r) (go : ∀ i, i < n → p i = true → ∀ q, Ev (fun k => F k (i + 1)) q → Ev (fun k => F k i) q) (no : ∀ i, i < n → p i = false → Ev (fun k => F k i) false) :
    Ev (fun k => F k 0) ((List.range n).all p && r) := by
  rw [List.range_eq_range']
  exact all_ends stop go no n 0 (by omega)
theorem next (i : Nat) (h : i < 4611686018427387904) : wrap64 ((i : Int) + 1) = ((i + 1 : Nat) : Int) := by
  rw [w64 (by omega) (by omega)]
  omega

def convValue (x : S92) : S76 := ⟨x.f0, x.f1⟩
theorem drop_val (l : List S76) (i : Nat) (h : i < l.length) : l.drop i = rd_T76 l i :: l.drop (i + 1) := by
  rw [List.drop_eq_getElem_cons h]
  simp [rd_T76, List.getD, List.getElem?_eq_getElem h]
theorem toValue_l (l : List S92) (hl : l.length ≤ 4611686018427387903) : ∀ (d i : Nat) (m : List S76), m.length = l.length → i + d = l.length → m.take i = (l.map convValue).take i → Ev (fun k => laws_toValueS.l0 k l m (i : Int)) (l.map convValue)
  | 0, i, m, hm, h, ht => ev_stop fun k => by
    rw [laws_toValueS.l0, if_neg (by omega)]
    rw [List.take_of_length_le (by omega), List.take_of_length_le (by simp; omega)] at ht
    rw [ht]
  | d + 1, i, m, hm, h, ht => by
    refine ev_step (toValue_l l hl d (i + 1) (m.set i (convValue (l.getD i z92))) (by simpa using hm) (by omega) ?_) fun k => by
      rw [laws_toValueS.l0, if_pos (by omega), if_pos (by omega)]
      unfold laws_toValue.f
      rw [Option.bind_some, if_pos (by omega), next i (by omega)]
      rfl
    rw [List.take_succ_eq_append_getElem (by simp; omega), List.take_succ_eq_append_getElem (by simp; omega), List.take_set_of_le (Nat.le_refl i), ht]
    simp [List.getD, List.getElem?_eq_getElem (show i < l.length by omega)]
theorem toValue_tells (l : List S92) (hl : l.length ≤ 1048576) : Ev (fun k => laws_toValueS.f k l) (l.map convValue) := by
  refine Ev.congr (g := fun k => laws_toValueS.f k l) (fun k => ?_) (toValue_l l (by omega) l.length 0 (List.replicate l.length z76) (by simp) (by omega) (by simp))
  unfold laws_toValueS.f
  rw [if_pos (by omega), if_pos (by omega), Int.toNat_natCast]
  rfl
theorem eqValue_l (l : List S76) (hl : l.length ≤ 4611686018427387903) : ∀ (d i : Nat), i + d = l.length → Ev (fun k => laws_eqValueS.l0 k l l (i : Int)) true
  | 0, i, h => ev_stop fun k => by
    rw [laws_eqValueS.l0, if_neg (by omega)]
  | d + 1, i, h => by
    refine ev_step (eqValue_l l hl d (i + 1) (by omega)) fun k => by
      rw [laws_eqValueS.l0, if_pos (by omega), if_pos (by omega), if_pos (by omega)]
      unfold laws_eqValue.f
      simp [next i (by omega)]
theorem eqValue_tells (l : List S76) (hl : l.length ≤ 4611686018427387903) : Ev (fun k => laws_eqValueS.f k l l) true := by
  refine Ev.congr (g := fun k => laws_eqValueS.f k l l) (fun k => ?_) (eqValue_l l hl l.length 0 (by omega))
  unfold laws_eqValueS.f
  rw [if_pos rfl]
  rfl
theorem szvalue (l : List S92) (a : Int) (h0 : 0 ≤ a) (h1 : a ≤ 1048576) (hl : l.length ≤ maxLen) : laws_szValueS.f l a = some (if a < (l.length : Int) then -1 else a - (l.length : Int)) := by
  have hm : maxLen ≤ 9223372036854775807 := by decide
  unfold laws_szValueS.f
  rw [w64 (by omega) (by omega)]
  split <;> split <;> first | rfl | omega

theorem within_tells (a b c : Int) : impl_within.f a b c = some (decide (b ≤ a) && decide (a ≤ c)) := by
  unfold impl_within.f
  by_cases h : a ≥ b
  · rw [if_pos h]; simp [show b ≤ a from h]
  · rw [if_neg h]; simp [show ¬ b ≤ a from h]

theorem sin_tells (a b c : Int) : spec_l1In.f a b c = some (decide (b ≤ a) && decide (a ≤ c)) := by
  unfold spec_l1In.f
  by_cases h : a ≥ b
  · rw [if_pos h]; simp [show b ≤ a from h]
  · rw [if_neg h]; simp [show ¬ b ≤ a from h]

def goodVal (x : S76) : Bool := inB (-1000) 1000 x.f1 && (!x.f0 || decide (x.f1 = 0))
theorem sval_tells (x : S76) : spec_GoodValue.f x.f0 x.f1 = some (goodVal x) := by
  unfold spec_GoodValue.f goodVal
  rw [sin_tells, Option.bind_some]
  change (if inB (-1000) 1000 x.f1 = true then _ else _) = _
  cases inB (-1000) 1000 x.f1 with
  | false => rfl
  | true =>
    cases x.f0 with
    | false => rfl
    | true => rfl
theorem ival_tells (x : S76) : impl_GoodValue.f x.f0 x.f1 = some (goodVal x) := by
  unfold impl_GoodValue.f goodVal impl_isSmall.f
  rw [within_tells, Option.bind_some]
  cases x.f0 with
  | false => simp [inB]
  | true =>
    by_cases h : x.f1 = 0
    · simp [h, inB]
    · simp [h]
theorem srow_l (key : Int) (l m : List S76) (hl : l.length ≤ 1048576) : ∀ (d i : Nat), i + d = l.length → Ev (fun k => spec_l2Row.l0 k l (l.length : Int) (i : Int) key m) ((l.drop i).all goodVal && (inB 0 999 key && decide (m.length = 3)))
  | 0, i, h => ev_stop fun k => by
    rw [spec_l2Row.l0, if_neg (by omega), sin_tells, Option.bind_some, List.drop_of_length_le (by omega)]
    change (if inB 0 999 key = true then some ((m.length : Int) == 3) else some false) = _
    cases inB 0 999 key with
    | false => rfl
    | true =>
      rw [if_pos rfl]
      by_cases h3 : m.length = 3
      · simp [h3]
      · have : ((m.length : Int) == 3) = false := beq_eq_false_iff_ne.mpr (by omega)
        rw [this]
        simp [h3]
  | d + 1, i, h => by
    have ih := srow_l key l m hl d (i + 1) (by omega)
    rw [drop_val l i (by omega), List.all_cons, Bool.and_assoc]
    refine Ev.step (f := fun k => if goodVal (rd_T76 l i) = true then spec_l2Row.l0 k l (l.length : Int) ((i + 1 : Nat) : Int) key m else some false) (fun k => ?_) ?_
    · rw [spec_l2Row.l0, if_pos (by omega), if_pos (by omega), if_pos (by omega), sval_tells, Option.bind_some, next i (by omega)]
    · cases goodVal (rd_T76 l i) with
      | true => simpa using ih
      | false => exact ev_some fun k => by simp
theorem srow_tells (key : Int) (l : List S76) (hl : l.length ≤ 1048576) : Ev (fun k => spec_l2Row.f k key l) (l.all goodVal && (inB 0 999 key && decide (l.length = 3))) := by
  have h := srow_l key l l hl l.length 0 (by omega)
  rw [List.drop_zero] at h
  exact h
theorem ivals_l (l : List S76) (hl : l.length ≤ 1048576) : ∀ (d i : Nat), i + d = l.length → Ev (fun k => impl_areValues.l0 k l (l.length : Int) (i : Int)) ((l.drop i).all goodVal)
  | 0, i, h => ev_stop fun k => by
    rw [impl_areValues.l0, if_neg (by omega), List.drop_of_length_le (by omega)]
    rfl
  | d + 1, i, h => by
    have ih := ivals_l l hl d (i + 1) (by omega)
    rw [drop_val l i (by omega), List.all_cons]
    refine Ev.step (f := fun k => if goodVal (rd_T76 l i) = true then impl_areValues.l0 k l (l.length : Int) ((i + 1 : Nat) : Int) else some false) (fun k => ?_) ?_
    · rw [impl_areValues.l0, if_pos (by omega), if_pos (by omega), if_pos (by omega), ival_tells, Option.bind_some, next i (by omega)]
    · cases goodVal (rd_T76 l i) with
      | true => simpa using ih
      | false => exact ev_some fun k => by simp
theorem ikey_tells (key : Int) : impl_isKey.f key = some (inB 0 999 key) := by
  unfold impl_isKey.f
  rw [within_tells]
  rfl
theorem irow_tells (key : Int) (l : List S76) (hl : l.length ≤ 1048576) : Ev (fun k => impl_isRow.f k key l) (l.all goodVal && (inB 0 999 key && decide (l.length = 3))) := by
  unfold impl_isRow.f
  refine ev_some_bind (ikey_tells key) ?_
  cases inB 0 999 key with
  | false => exact ev_ite_neg (by simp) (ev_some fun _ => by simp)
  | true =>
    refine ev_ite_pos rfl ?_
    by_cases h3 : l.length = 3
    · have h := ivals_l l hl l.length 0 (by omega)
      rw [List.drop_zero] at h
      exact ev_ite_pos (by omega) (ev_bind h (ev_some fun _ => by simp [h3]))
    · exact ev_ite_neg (by omega) (ev_some fun _ => by simp [h3])

/-- A text's bytes. -/
abbrev tl (s : ByteArray) : List UInt8 := s.data.toList
theorem tl_app (a b : ByteArray) : tl (a ++ b) = tl a ++ tl b := by
  show (a ++ b).data.toList = _
  rw [ByteArray.data_append, Array.toList_append]
theorem tl_inj {a b : ByteArray} (h : tl a = tl b) : a = b := by
  cases a
  cases b
  congr 1
  exact Array.toList_inj.1 h
theorem tl_size (s : ByteArray) : s.size = (tl s).length := by
  show s.data.size = _
  rw [Array.length_toList]
theorem dec_len : ∀ u : Nat, (Lib.decDigits u).length ≤ u + 1 := fun u => by
  induction u using Nat.strongRecOn with
  | ind u ih =>
    rw [Lib.decDigits]
    split
    · simp
    · have := ih (u / 10) (by omega)
      simp
      omega
theorem itoa_size (n : Int) (h0 : -100000 ≤ n) (h1 : n ≤ 100000) : (itoaB n).size ≤ 100010 := by
  rw [tl_size]
  show (Lib.itoa n).toArray.toList.length ≤ _
  unfold Lib.itoa
  split
  · have := dec_len n.natAbs
    simp
    omega
  · have := dec_len n.toNat
    simp
    omega
theorem digit_str (d : Nat) (h : d < 10) : strOfNums [(wrap64 (48 + (d : Int))) % 256] = ⟨#[UInt8.ofNat (48 + d)]⟩ := by
  rw [w64 (by omega) (by omega)]
  have hd : d = 0 ∨ d = 1 ∨ d = 2 ∨ d = 3 ∨ d = 4 ∨ d = 5 ∨ d = 6 ∨ d = 7 ∨ d = 8 ∨ d = 9 := by omega
  rcases hd with h | h | h | h | h | h | h | h | h | h <;> subst h <;> rfl
theorem num_tells : ∀ u : Nat, u ≤ 100000 → Ev (fun k => spec_l1Num.f k (u : Int)) (itoaB (u : Int)) := fun u => by
  induction u using Nat.strongRecOn with
  | ind u ih =>
    intro hu
    have e : itoaB (u : Int) = ⟨(Lib.decDigits u).toArray⟩ := by
      unfold itoaB Lib.itoa
      rw [if_neg (by omega), Int.toNat_natCast]
    by_cases h : u < 10
    · rw [e, Lib.decDigits, dif_pos h]
      exact ev_stop fun k => by rw [spec_l1Num.f, if_pos (by omega), digit_str u h]
    · have i1 := ih (u / 10) (by omega) (by omega)
      have ed : wrap64 (Int.tdiv (u : Int) 10) = ((u / 10 : Nat) : Int) := by rw [Int.tdiv_eq_ediv_of_nonneg (by omega), w64 (by omega) (by omega)]; omega
      have em : Int.tmod (u : Int) 10 = ((u % 10 : Nat) : Int) := by rw [Int.tmod_eq_emod_of_nonneg (by omega)]; omega
      have hs := itoa_size ((u / 10 : Nat) : Int) (by omega) (by omega)
      refine Ev.step (f := fun k => (spec_l1Num.f k ((u / 10 : Nat) : Int)).bind fun t => if t.size + (⟨#[UInt8.ofNat (48 + u % 10)]⟩ : ByteArray).size ≤ 9223372036854775807 then some (t ++ ⟨#[UInt8.ofNat (48 + u % 10)]⟩) else none) (fun k => by
        rw [spec_l1Num.f, if_neg (by omega), ed, em]
        refine congrArg (Option.bind _) (funext fun t => ?_)
        rw [Option.bind_some, digit_str (u % 10) (by omega)]) (ev_bind i1 (ev_ite_pos ?_ (ev_some fun _ => ?_)))
      · have : (⟨#[UInt8.ofNat (48 + u % 10)]⟩ : ByteArray).size = 1 := rfl
        omega
      · congr 1
        refine tl_inj ?_
        rw [tl_app, e]
        show (Lib.itoa ((u / 10 : Nat) : Int)).toArray.toList ++ _ = (Lib.decDigits u).toArray.toList
        unfold Lib.itoa
        rw [if_neg (by omega), Int.toNat_natCast]
        conv => rhs; rw [Lib.decDigits, dif_neg h]
theorem num_int (n : Int) (h0 : 0 ≤ n) (h1 : n ≤ 100000) : Ev (fun k => spec_l1Num.f k n) (itoaB n) := by
  obtain ⟨u, rfl⟩ := Int.eq_ofNat_of_zero_le h0
  exact num_tells u (by omega)
theorem signed_tells (n : Int) (h0 : -100000 ≤ n) (h1 : n ≤ 100000) : Ev (fun k => spec_l1Signed.f k n) (itoaB n) := by
  unfold spec_l1Signed.f
  by_cases h : n < 0
  · have hs := itoa_size (-n) (by omega) (by omega)
    refine ev_ite_pos h ?_
    rw [w64 (i := -n) (by omega) (by omega)]
    refine ev_bind (num_int (-n) (by omega) (by omega)) (ev_ite_pos (by omega) (ev_some fun _ => ?_))
    congr 1
    refine tl_inj ?_
    rw [tl_app]
    show [45] ++ (Lib.itoa (-n)).toArray.toList = (Lib.itoa n).toArray.toList
    unfold Lib.itoa
    rw [if_neg (by omega), if_pos h, show (-n).toNat = n.natAbs by omega]
    simp
  · exact ev_ite_neg h (ev_bind (num_int n (by omega) h1) (ev_some fun _ => rfl))
/-- What a text's bytes come to, each by its place, of the first i. -/
def csum (s : ByteArray) : Nat → Int
  | 0 => 0
  | i + 1 => csum s i + bt s (i : Int) * ((i : Int) + 1)
theorem csum_step (s : ByteArray) (i : Nat) (h : i ≤ 1000000) : 0 ≤ bt s (i : Int) * ((i : Int) + 1) ∧ bt s (i : Int) * ((i : Int) + 1) ≤ 255000255 := by
  have hb := bt_range s (i : Int)
  have h1 : bt s (i : Int) * ((i : Int) + 1) ≤ 255 * ((i : Int) + 1) := Int.mul_le_mul_of_nonneg_right hb.2 (by omega)
  exact ⟨Int.mul_nonneg hb.1 (by omega), by omega⟩
theorem csum_bd (s : ByteArray) : ∀ i : Nat, i ≤ 1000000 → 0 ≤ csum s i ∧ csum s i ≤ 255000255 * (i : Int)
  | 0, _ => by simp [csum]
  | i + 1, h => by
    have ih := csum_bd s i (by omega)
    have hs := csum_step s i (by omega)
    rw [csum]
    omega
theorem ssum_l (s : ByteArray) (hs : s.size ≤ 1000000) : ∀ (d i : Nat), i + d = s.size → Ev (fun k => spec_l10Sum.l0 k s (Int.tmod (csum s i) 9973) (i : Int)) (Int.tmod (csum s s.size) 9973)
  | 0, i, h => by
    obtain rfl : i = s.size := by omega
    exact ev_stop fun k => by rw [spec_l10Sum.l0, if_neg (by omega)]
  | d + 1, i, h => by
    have ih := ssum_l s hs d (i + 1) (by omega)
    have hb := bt_range s (i : Int)
    have hq := csum_step s i (by omega)
    have hc := csum_bd s i (by omega)
    have hm : 0 ≤ Int.tmod (csum s i) 9973 ∧ Int.tmod (csum s i) 9973 < 9973 := ⟨Int.tmod_nonneg _ hc.1, Int.tmod_lt_of_pos _ (by omega)⟩
    have e : Int.tmod (wrap64 (Int.tmod (csum s i) 9973 + wrap64 (wrap64 ((i : Int) + 1) * wrap64 (bt s (i : Int))))) 9973 = Int.tmod (csum s (i + 1)) 9973 := by
      rw [w64 (i := (i : Int) + 1) (by omega) (by omega), w64 (i := bt s (i : Int)) (by omega) (by omega), Int.mul_comm ((i : Int) + 1), w64 (i := bt s (i : Int) * ((i : Int) + 1)) (by omega) (by omega), w64 (by omega) (by omega), csum]
      generalize bt s (i : Int) * ((i : Int) + 1) = q at hq
      rw [Int.tmod_eq_emod_of_nonneg hc.1, Int.tmod_eq_emod_of_nonneg (by omega), Int.tmod_eq_emod_of_nonneg (by omega)]
      omega
    exact ev_step ih fun k => by rw [spec_l10Sum.l0, if_pos (by omega), if_pos (by omega), e, next i (by omega)]
theorem ssum_tells (s : ByteArray) (hs : s.size ≤ 1000000) : Ev (fun k => spec_l10Sum.f k s) (Int.tmod (csum s s.size) 9973) := ssum_l s hs s.size 0 (by omega)
theorem itoa_f (n : Int) (h0 : -100000 ≤ n) (h1 : n ≤ 100000) : strconv_Itoa.f n = some (itoaB n) := by
  unfold strconv_Itoa.f
  rw [if_pos ⟨by omega, by omega⟩]
/-- A text with the sum of its bytes behind it. -/
def checkedB (s : ByteArray) : ByteArray := (s ++ ⟨#[32]⟩) ++ itoaB (Int.tmod (csum s s.size) 9973)
theorem checked_l (s : ByteArray) (hs : s.size ≤ 1000000) : ∀ (d i : Nat), i + d = s.size → Ev (fun k => impl_checked.l0 k s (csum s i) (s.size : Int) (i : Int)) (checkedB s)
  | 0, i, h => by
    obtain rfl : i = s.size := by omega
    have hc := csum_bd s s.size hs
    have hm : 0 ≤ Int.tmod (csum s s.size) 9973 ∧ Int.tmod (csum s s.size) 9973 < 9973 := ⟨Int.tmod_nonneg _ hc.1, Int.tmod_lt_of_pos _ (by omega)⟩
    have hz := itoa_size (Int.tmod (csum s s.size) 9973) (by omega) (by omega)
    have e1 : (s ++ (⟨#[32]⟩ : ByteArray)).size = s.size + 1 := by rw [ByteArray.size_append]; rfl
    exact ev_stop fun k => by rw [impl_checked.l0, if_neg (by omega), if_pos (by omega), itoa_f _ (by omega) (by omega), Option.bind_some, if_pos (by omega)]; rfl
  | d + 1, i, h => by
    have ih := checked_l s hs d (i + 1) (by omega)
    have hb := bt_range s (i : Int)
    have hq := csum_step s i (by omega)
    have hc := csum_bd s i (by omega)
    have e : wrap64 (csum s i + wrap64 (wrap64 (bt s (i : Int)) * wrap64 ((i : Int) + 1))) = csum s (i + 1) := by
      rw [w64 (i := (i : Int) + 1) (by omega) (by omega), w64 (i := bt s (i : Int)) (by omega) (by omega), w64 (i := bt s (i : Int) * ((i : Int) + 1)) (by omega) (by omega), w64 (by omega) (by omega), csum]
    exact ev_step ih fun k => by rw [impl_checked.l0, if_pos (by omega), if_pos (by omega), if_pos (by omega), e, next i (by omega)]
theorem checked_tells (s : ByteArray) (hs : s.size ≤ 1000000) : Ev (fun k => impl_checked.f k s) (checkedB s) := checked_l s hs s.size 0 (by omega)
theorem checked_size (s : ByteArray) (hs : s.size ≤ 1000000) : (checkedB s).size ≤ s.size + 100020 := by
  have hc := csum_bd s s.size hs
  have hm : 0 ≤ Int.tmod (csum s s.size) 9973 ∧ Int.tmod (csum s s.size) 9973 < 9973 := ⟨Int.tmod_nonneg _ hc.1, Int.tmod_lt_of_pos _ (by omega)⟩
  have hz := itoa_size (Int.tmod (csum s s.size) 9973) (by omega) (by omega)
  have e1 : (⟨#[32]⟩ : ByteArray).size = 1 := rfl
  unfold checkedB
  rw [ByteArray.size_append, ByteArray.size_append]
  omega

def recordB (no : Int) (dr : Bool) (key : Int) (l : List S76) : Bool := inB 1 200 no && (if dr = true then inB 0 999 key && decide (l.length = 0) else (l.all goodVal && (inB 0 999 key && decide (l.length = 3))))
theorem len0 (l : List S76) : ((l.length : Int) == 0) = decide (l.length = 0) := by
  by_cases h : l.length = 0
  · simp [h]
  · rw [decide_eq_false h]
    exact beq_eq_false_iff_ne.mpr (by omega)
theorem srecord_tells (no : Int) (dr : Bool) (key : Int) (l : List S76) (hl : l.length ≤ 1048576) : Ev (fun k => spec_GoodRecord.f k no dr key l) (recordB no dr key l) := by
  have s1 : spec_l1In.f no 1 200 = some (inB 1 200 no) := sin_tells no 1 200
  have s2 : spec_l1In.f key 0 999 = some (inB 0 999 key) := sin_tells key 0 999
  unfold spec_GoodRecord.f recordB
  rw [s1, s2]
  cases inB 1 200 no with
  | false => exact ev_some fun _ => rfl
  | true =>
    refine ev_some_bind rfl (ev_ite_pos rfl ?_)
    cases dr with
    | false => exact ev_ite_neg (by simp) (ev_bind (srow_tells key l hl) (ev_some fun _ => by simp))
    | true =>
      refine ev_ite_pos rfl (ev_some_bind rfl ?_)
      rw [len0]
      cases inB 0 999 key with
      | false => exact ev_some fun _ => rfl
      | true => exact ev_some fun _ => rfl
theorem irecord_tells (no : Int) (dr : Bool) (key : Int) (l : List S76) (hl : l.length ≤ 1048576) : Ev (fun k => impl_GoodRecord.f k no dr key l) (recordB no dr key l) := by
  have s1 : impl_within.f no 1 200 = some (inB 1 200 no) := within_tells no 1 200
  unfold impl_GoodRecord.f recordB
  rw [s1, ikey_tells]
  cases inB 1 200 no with
  | false => exact ev_some fun _ => rfl
  | true =>
    refine ev_some_bind rfl (ev_ite_pos rfl ?_)
    cases dr with
    | false => exact ev_ite_neg (by simp) (ev_bind (irow_tells key l hl) (ev_some fun _ => by simp))
    | true =>
      refine ev_ite_pos rfl (ev_some_bind rfl ?_)
      rw [len0]
      cases inB 0 999 key with
      | false => exact ev_some fun _ => rfl
      | true => exact ev_some fun _ => rfl

def valB (v : S76) : ByteArray := if v.f0 = true then ⟨#[45]⟩ else itoaB v.f1
theorem val_size (v : S76) (h : goodVal v = true) : (valB v).size ≤ 100010 := by
  unfold goodVal inB at h
  simp only [Bool.and_eq_true, decide_eq_true_eq] at h
  unfold valB
  split
  · show (1 : Nat) ≤ 100010
    omega
  · exact itoa_size _ (by omega) (by omega)
theorem sval_text (v : S76) (h : goodVal v = true) : Ev (fun k => spec_l10Value.f k v.f0 v.f1) (valB v) := by
  unfold goodVal inB at h
  simp only [Bool.and_eq_true, decide_eq_true_eq] at h
  unfold spec_l10Value.f valB
  by_cases hn : v.f0 = true
  · rw [if_pos hn]
    exact ev_ite_pos hn (ev_some fun _ => rfl)
  · rw [if_neg hn]
    exact ev_ite_neg hn (ev_bind (signed_tells _ (by omega) (by omega)) (ev_some fun _ => rfl))
/-- Texts behind a text, each behind a space. -/
def moreB (s : ByteArray) : List S76 → ByteArray
  | [] => s
  | v :: l => moreB (s ++ ((⟨#[32]⟩ : ByteArray) ++ valB v)) l
theorem more_tl : ∀ (l : List S76) (s : ByteArray), tl (moreB s l) = tl s ++ Lib.joinTail [32] (l.map fun v => tl (valB v))
  | [], s => by simp [moreB, Lib.joinTail]
  | v :: l, s => by
    have e : tl (⟨#[32]⟩ : ByteArray) = [32] := rfl
    rw [moreB, more_tl l, tl_app, tl_app, e]
    simp [Lib.joinTail, List.append_assoc]
theorem more_size : ∀ (l : List S76) (s : ByteArray), (∀ v ∈ l, goodVal v = true) → (moreB s l).size ≤ s.size + 100011 * l.length
  | [], s, _ => by simp [moreB]
  | v :: l, s, h => by
    have ih := more_size l (s ++ ((⟨#[32]⟩ : ByteArray) ++ valB v)) (fun x hx => h x (List.mem_cons_of_mem _ hx))
    have hv := val_size v (h v (List.mem_cons_self ..))
    have e1 : (⟨#[32]⟩ : ByteArray).size = 1 := rfl
    rw [ByteArray.size_append, ByteArray.size_append] at ih
    rw [moreB, List.length_cons]
    omega
theorem rd_val (l : List S76) (i : Nat) (h : i < l.length) : l.drop i = rd_T76 l (i : Int) :: l.drop (i + 1) := by
  rw [List.drop_eq_getElem_cons h]
  congr 1
  show l[i] = l.getD i z76
  rw [List.getD_eq_getElem?_getD, List.getElem?_eq_getElem h]
  rfl
theorem rd_val_mem (l : List S76) (i : Nat) (h : i < l.length) : rd_T76 l (i : Int) ∈ l := by
  show l.getD i z76 ∈ l
  rw [List.getD_eq_getElem?_getD, List.getElem?_eq_getElem h]
  exact List.getElem_mem h
/-- What the reference lays behind a text. -/
theorem stext_end (s : ByteArray) (hs : s.size ≤ 800000) : Ev (fun k => (spec_l10Sum.f k s).bind fun t => (spec_l1Num.f k t).bind fun u => if (s ++ (⟨#[32]⟩ : ByteArray)).size + u.size ≤ 9223372036854775807 then (if ((s ++ (⟨#[32]⟩ : ByteArray)) ++ u).size + 1 ≤ 9223372036854775807 then some (((s ++ (⟨#[32]⟩ : ByteArray)) ++ u) ++ (⟨#[10]⟩ : ByteArray)) else none) else none) (checkedB s ++ ⟨#[10]⟩) := by
  have hc := csum_bd s s.size (by omega)
  have hm : 0 ≤ Int.tmod (csum s s.size) 9973 ∧ Int.tmod (csum s s.size) 9973 < 9973 := ⟨Int.tmod_nonneg _ hc.1, Int.tmod_lt_of_pos _ (by omega)⟩
  have hz := itoa_size (Int.tmod (csum s s.size) 9973) (by omega) (by omega)
  have e1 : (s ++ (⟨#[32]⟩ : ByteArray)).size = s.size + 1 := by rw [ByteArray.size_append]; rfl
  refine ev_bind (ssum_tells s (by omega)) (ev_bind (num_int _ (by omega) (by omega)) (ev_ite_pos (by omega) (ev_ite_pos ?_ (ev_some fun _ => rfl))))
  rw [ByteArray.size_append, e1]
  omega
theorem stext_l (l : List S76) (hl : l.length ≤ 3) (hg : ∀ v ∈ l, goodVal v = true) : ∀ (d i : Nat) (s : ByteArray), i + d = l.length → s.size + 100011 * d ≤ 700000 → Ev (fun k => spec_l10Text.l0 k s l (l.length : Int) (i : Int)) (checkedB (moreB s (l.drop i)) ++ ⟨#[10]⟩)
  | 0, i, s, h, hs => by
    rw [List.drop_of_length_le (by omega), moreB]
    exact ev_step (stext_end s (by omega)) fun k => by rw [spec_l10Text.l0, if_neg (by omega), if_pos (by omega)]
  | d + 1, i, s, h, hs => by
    have hv := hg _ (rd_val_mem l i (by omega))
    have hz := val_size _ hv
    have e1 : (⟨#[32]⟩ : ByteArray).size = 1 := rfl
    have e2 : ((⟨#[32]⟩ : ByteArray) ++ valB (rd_T76 l (i : Int))).size = 1 + (valB (rd_T76 l (i : Int))).size := by rw [ByteArray.size_append, e1]
    have ih := stext_l l hl hg d (i + 1) (s ++ ((⟨#[32]⟩ : ByteArray) ++ valB (rd_T76 l (i : Int)))) (by omega) (by rw [ByteArray.size_append, e2]; omega)
    rw [rd_val l i (by omega), moreB]
    refine Ev.step (f := fun k => (spec_l10Value.f k (rd_T76 l (i : Int)).f0 (rd_T76 l (i : Int)).f1).bind fun t => if 1 + t.size ≤ 9223372036854775807 then (if s.size + ((⟨#[32]⟩ : ByteArray) ++ t).size ≤ 9223372036854775807 then spec_l10Text.l0 k (s ++ ((⟨#[32]⟩ : ByteArray) ++ t)) l (l.length : Int) ((i + 1 : Nat) : Int) else none) else none) (fun k => by rw [spec_l10Text.l0, if_pos (by omega), if_pos (by omega), if_pos (by omega), next i (by omega)]) (ev_bind (sval_text _ hv) (ev_ite_pos (by omega) (ev_ite_pos (by omega) ih)))
def headB (no : Int) (c : UInt8) (key : Int) : ByteArray := itoaB no ++ ((⟨#[32, c, 32]⟩ : ByteArray) ++ itoaB key)
theorem head_size (no : Int) (c : UInt8) (key : Int) (h0 : 0 ≤ no) (h1 : no ≤ 200) (h2 : 0 ≤ key) (h3 : key ≤ 999) : (headB no c key).size ≤ 200030 := by
  have a := itoa_size no (by omega) (by omega)
  have b := itoa_size key (by omega) (by omega)
  have e1 : (⟨#[32, c, 32]⟩ : ByteArray).size = 3 := rfl
  unfold headB
  rw [ByteArray.size_append, ByteArray.size_append]
  omega
/-- The text of a good record. -/
def recB (no : Int) (dr : Bool) (key : Int) (l : List S76) : ByteArray := checkedB (moreB (headB no (if dr = true then 100 else 112) key) l) ++ ⟨#[10]⟩
theorem rec_good {no : Int} {dr : Bool} {key : Int} {l : List S76} (h : recordB no dr key l = true) : 1 ≤ no ∧ no ≤ 200 ∧ 0 ≤ key ∧ key ≤ 999 ∧ l.length ≤ 3 ∧ (∀ v ∈ l, goodVal v = true) ∧ (dr = true → l = []) := by
  unfold recordB inB at h
  cases dr with
  | true =>
    simp only [Bool.and_eq_true, decide_eq_true_eq, if_true] at h
    have : l = [] := List.eq_nil_of_length_eq_zero h.2.2
    subst this
    exact ⟨h.1.1, h.1.2, h.2.1.1, h.2.1.2, by simp, by simp, fun _ => rfl⟩
  | false =>
    simp only [Bool.and_eq_true, decide_eq_true_eq, Bool.false_eq_true, if_false, List.all_eq_true] at h
    exact ⟨h.1.1, h.1.2, h.2.2.1.1, h.2.2.1.2, by omega, h.2.1, by simp⟩
theorem stext_tells {no : Int} {dr : Bool} {key : Int} {l : List S76} (h : recordB no dr key l = true) : Ev (fun k => spec_l10Text.f k no dr key l) (recB no dr key l) := by
  obtain ⟨h0, h1, h2, h3, h4, h5, h6⟩ := rec_good h
  have a := itoa_size no (by omega) (by omega)
  have b := itoa_size key (by omega) (by omega)
  unfold spec_l10Text.f recB
  refine ev_bind (num_int no (by omega) (by omega)) ?_
  cases dr with
  | true =>
    obtain rfl := h6 rfl
    have e1 : (⟨#[32, 100, 32]⟩ : ByteArray).size = 3 := rfl
    have e2 : ((⟨#[32, 100, 32]⟩ : ByteArray) ++ itoaB key).size = 3 + (itoaB key).size := by rw [ByteArray.size_append, e1]
    have e3 : (itoaB no ++ ((⟨#[32, 100, 32]⟩ : ByteArray) ++ itoaB key)).size = (itoaB no).size + (3 + (itoaB key).size) := by rw [ByteArray.size_append, e2]
    exact ev_ite_pos rfl (ev_bind (num_int key (by omega) (by omega)) (ev_ite_pos (by omega) (ev_ite_pos (by omega) (ev_ite_pos (by omega) (stext_end (headB no 100 key) (by have := head_size no 100 key (by omega) h1 h2 h3; omega))))))
  | false =>
    have e1 : (⟨#[32, 112, 32]⟩ : ByteArray).size = 3 := rfl
    have e2 : ((⟨#[32, 112, 32]⟩ : ByteArray) ++ itoaB key).size = 3 + (itoaB key).size := by rw [ByteArray.size_append, e1]
    have hT := stext_l l h4 h5 l.length 0 (headB no 112 key) (by omega) (by have := head_size no 112 key (by omega) h1 h2 h3; omega)
    rw [List.drop_zero] at hT
    exact ev_ite_neg (by simp) (ev_bind (num_int key (by omega) (by omega)) (ev_ite_pos (by omega) (ev_ite_pos (by omega) hT)))
/-- Words joined are the reference's text. -/
theorem join_more (no key : Int) (c : UInt8) (l : List S76) : joinB ([itoaB no, ⟨#[c]⟩, itoaB key] ++ l.map valB) = moreB (headB no c key) l := by
  refine tl_inj ?_
  rw [more_tl]
  unfold headB
  rw [tl_app, tl_app]
  show (Lib.join (([itoaB no, ⟨#[c]⟩, itoaB key] ++ l.map valB).map fun x => x.data.toList) [32]).toArray.toList = _
  rw [List.toList_toArray, List.cons_append, List.map_cons, Lib.join_cons]
  simp [Lib.joinTail, tl, List.append_assoc, Function.comp_def]
theorem itext_l (l : List S76) (hg : ∀ v ∈ l, goodVal v = true) (hl : l.length ≤ 3) (T : ByteArray) (hT : T.size ≤ 800000) : ∀ (d i : Nat) (ws : List ByteArray), i + d = l.length → ws.length ≤ 3 + i → joinB (ws ++ (l.drop i).map valB) = T → Ev (fun k => impl_recordText.l0 k ws l (l.length : Int) (i : Int)) (checkedB T ++ ⟨#[10]⟩)
  | 0, i, ws, h, hw, hj => by
    rw [List.drop_of_length_le (by omega), List.map_nil, List.append_nil] at hj
    have hJ : strings_Join.f ws (⟨#[32]⟩ : ByteArray) = some T := by
      unfold strings_Join.f
      have e : (⟨(Lib.join (ws.map (·.data.toList)) (⟨#[32]⟩ : ByteArray).data.toList).toArray⟩ : ByteArray) = T := hj
      have e2 : (Lib.join (ws.map (·.data.toList)) (⟨#[32]⟩ : ByteArray).data.toList).length = T.size := by
        rw [← e]
        show _ = (Lib.join (ws.map (·.data.toList)) (⟨#[32]⟩ : ByteArray).data.toList).toArray.size
        rw [List.size_toArray]
      rw [if_pos ⟨by omega, by omega⟩, e]
    have hs := checked_size T (by omega)
    exact ev_step (ev_some_bind hJ (ev_bind (checked_tells T (by omega)) (ev_ite_pos (show (checkedB T).size + 1 ≤ 9223372036854775807 by omega) (ev_some fun _ => rfl)))) fun k => by rw [impl_recordText.l0, if_neg (by omega)]
  | d + 1, i, ws, h, hw, hj => by
    have hv := hg _ (rd_val_mem l i (by omega))
    rw [rd_val l i (by omega), List.map_cons] at hj
    have ih := itext_l l hg hl T hT d (i + 1) (ws ++ [valB (rd_T76 l (i : Int))]) (by omega) (by simp; omega) (by rw [List.append_assoc, List.singleton_append]; exact hj)
    unfold goodVal inB at hv
    simp only [Bool.and_eq_true, decide_eq_true_eq] at hv
    by_cases hn : (rd_T76 l (i : Int)).f0 = true
    · have e : valB (rd_T76 l (i : Int)) = ⟨#[45]⟩ := by unfold valB; rw [if_pos hn]
      rw [e] at ih
      exact ev_step ih fun k => by rw [impl_recordText.l0, if_pos (by omega), if_pos (by omega), if_pos (by omega), if_pos hn, if_pos (by omega), next i (by omega)]
    · have e : valB (rd_T76 l (i : Int)) = itoaB (rd_T76 l (i : Int)).f1 := by unfold valB; rw [if_neg hn]
      rw [e] at ih
      exact ev_step ih fun k => by rw [impl_recordText.l0, if_pos (by omega), if_pos (by omega), if_pos (by omega), if_neg hn, itoa_f _ (by omega) (by omega), Option.bind_some, if_pos (by omega), next i (by omega)]
theorem itext_tells {no : Int} {dr : Bool} {key : Int} {l : List S76} (h : recordB no dr key l = true) : Ev (fun k => impl_recordText.f k no dr key l) (recB no dr key l) := by
  obtain ⟨h0, h1, h2, h3, h4, h5, h6⟩ := rec_good h
  have hsz : ∀ c : UInt8, (moreB (headB no c key) l).size ≤ 800000 := fun c => by
    have a := more_size l (headB no c key) h5
    have b := head_size no c key (by omega) h1 h2 h3
    omega
  have fin : ∀ (c : UInt8) (ws : List ByteArray), ws = [itoaB no, ⟨#[c]⟩, itoaB key] → Ev (fun k => impl_recordText.j0 k ws no dr key l) (checkedB (moreB (headB no c key) l) ++ ⟨#[10]⟩) := fun c ws hw => by
    subst hw
    have hI := itext_l l h5 h4 (moreB (headB no c key) l) (hsz c) l.length 0 [itoaB no, ⟨#[c]⟩, itoaB key] (by omega) (by simp) (by rw [List.drop_zero]; exact join_more no key c l)
    exact ev_step hI fun k => by rw [impl_recordText.j0]; rfl
  unfold impl_recordText.f recB
  refine ev_some_bind (itoa_f no (by omega) (by omega)) (ev_some_bind (itoa_f key (by omega) (by omega)) (ev_some_bind rfl ?_))
  cases dr with
  | true => exact ev_ite_pos rfl (ev_ite_pos (by simp) (fin 100 _ rfl))
  | false => exact ev_ite_neg (by simp) (fin 112 _ rfl)

/-- What holds from some number of rounds on. -/
def Evs (P : Nat → Prop) : Prop := ∃ K, ∀ k, K ≤ k → P k
theorem Evs.and {P Q : Nat → Prop} (h : Evs P) (h2 : Evs Q) : Evs (fun k => P k ∧ Q k) := by
  obtain ⟨K, hK⟩ := h
  obtain ⟨L, hL⟩ := h2
  exact ⟨max K L, fun k hk => ⟨hK k (by omega), hL k (by omega)⟩⟩
theorem Evs.of {P : Prop} (h : P) : Evs (fun _ => P) := ⟨0, fun _ _ => h⟩
theorem Evs.ev {α : Type} {g : Nat → Option α} {r : α} (h : Ev g r) : Evs (fun k => g k = some r) := h
theorem Evs.now {P : Nat → Prop} (h : Evs P) : ∃ k, P k := by
  obtain ⟨K, hK⟩ := h
  exact ⟨K, hK K (Nat.le_refl _)⟩
theorem Evs.mono {P Q : Nat → Prop} (h : Evs P) (hq : ∀ k, P k → Q k) : Evs Q := by
  obtain ⟨K, hK⟩ := h
  exact ⟨K, fun k hk => hq k (hK k hk)⟩

abbrev recG (r : S34) : Bool := recordB r.f0 r.f1 r.f2.f0 r.f2.f1
abbrev recT (r : S34) : ByteArray := recB r.f0 r.f1 r.f2.f0 r.f2.f1
theorem rd_rec (l : List S34) (i : Nat) (h : i < l.length) : l.drop i = rd_T34 l (i : Int) :: l.drop (i + 1) := by
  rw [List.drop_eq_getElem_cons h]
  congr 1
  show l[i] = l.getD i z34
  rw [List.getD_eq_getElem?_getD, List.getElem?_eq_getElem h]
  rfl
theorem rd_rec_mem (l : List S34) (i : Nat) (h : i < l.length) : rd_T34 l (i : Int) ∈ l := by
  show l.getD i z34 ∈ l
  rw [List.getD_eq_getElem?_getD, List.getElem?_eq_getElem h]
  exact List.getElem_mem h
theorem rec_size {no : Int} {dr : Bool} {key : Int} {l : List S76} (h : recordB no dr key l = true) : (recB no dr key l).size ≤ 1000000 := by
  obtain ⟨h0, h1, h2, h3, h4, h5, h6⟩ := rec_good h
  unfold recB
  have a := more_size l (headB no (if dr = true then 100 else 112) key) h5
  have b := head_size no (if dr = true then 100 else 112) key (by omega) h1 h2 h3
  have c := checked_size (moreB (headB no (if dr = true then 100 else 112) key) l) (by omega)
  have e1 : (⟨#[10]⟩ : ByteArray).size = 1 := rfl
  rw [ByteArray.size_append]
  omega
def okRec (l : List S34) (i : Nat) : Bool := recG (rd_T34 l (i : Int)) && decide ((rd_T34 l (i : Int)).f0 = ((i + 1 : Nat) : Int))
def logB (l : List S34) : Bool := (List.range' 0 l.length).all (okRec l) && decide ((l.length : Int) ≤ 40)
theorem srecs_l (l : List S34) (hl : l.length ≤ 1048576) (hr : ∀ r ∈ l, r.f2.f1.length ≤ 1048576) : ∀ (d i : Nat), i + d = l.length → Ev (fun k => spec_l10Records.l0 k l l (l.length : Int) (i : Int)) ((List.range' i d).all (okRec l) && decide ((l.length : Int) ≤ 40))
  | 0, i, h => ev_stop fun k => by rw [spec_l10Records.l0, if_neg (by omega)]; rfl
  | d + 1, i, h => by
    have hg := srecord_tells (rd_T34 l (i : Int)).f0 (rd_T34 l (i : Int)).f1 (rd_T34 l (i : Int)).f2.f0 (rd_T34 l (i : Int)).f2.f1 (hr _ (rd_rec_mem l i (by omega)))
    have ih := srecs_l l hl hr d (i + 1) (by omega)
    have eo : okRec l i = (recordB (rd_T34 l (i : Int)).f0 (rd_T34 l (i : Int)).f1 (rd_T34 l (i : Int)).f2.f0 (rd_T34 l (i : Int)).f2.f1 && decide ((rd_T34 l (i : Int)).f0 = ((i + 1 : Nat) : Int))) := rfl
    rw [List.range'_succ, List.all_cons, eo]
    refine Ev.step (f := fun k => (spec_GoodRecord.f k (rd_T34 l (i : Int)).f0 (rd_T34 l (i : Int)).f1 (rd_T34 l (i : Int)).f2.f0 (rd_T34 l (i : Int)).f2.f1).bind fun t => if t = true then (if (rd_T34 l (i : Int)).f0 = ((i + 1 : Nat) : Int) then spec_l10Records.l0 k l l (l.length : Int) ((i + 1 : Nat) : Int) else some false) else some false) (fun k => by rw [spec_l10Records.l0, if_pos (by omega), if_pos (by omega), if_pos (by omega), next i (by omega)]) (ev_bind hg ?_)
    cases recordB (rd_T34 l (i : Int)).f0 (rd_T34 l (i : Int)).f1 (rd_T34 l (i : Int)).f2.f0 (rd_T34 l (i : Int)).f2.f1 with
    | false => exact ev_ite_neg (by decide) (ev_some fun _ => rfl)
    | true =>
      refine ev_ite_pos rfl ?_
      by_cases hq : (rd_T34 l (i : Int)).f0 = ((i + 1 : Nat) : Int)
      · rw [decide_eq_true hq]
        exact ev_ite_pos hq (by simpa using ih)
      · rw [decide_eq_false hq]
        exact ev_ite_neg hq (ev_some fun _ => rfl)
theorem irecs_l (l : List S34) (hl : l.length ≤ 1048576) (hr : ∀ r ∈ l, r.f2.f1.length ≤ 1048576) : ∀ (d i : Nat), i + d = l.length → Ev (fun k => impl_areRecords.l0 k l l (l.length : Int) (i : Int)) ((List.range' i d).all (okRec l) && decide ((l.length : Int) ≤ 40))
  | 0, i, h => ev_stop fun k => by rw [impl_areRecords.l0, if_neg (by omega)]; rfl
  | d + 1, i, h => by
    have hg := irecord_tells (rd_T34 l (i : Int)).f0 (rd_T34 l (i : Int)).f1 (rd_T34 l (i : Int)).f2.f0 (rd_T34 l (i : Int)).f2.f1 (hr _ (rd_rec_mem l i (by omega)))
    have ih := irecs_l l hl hr d (i + 1) (by omega)
    have eo : okRec l i = (recordB (rd_T34 l (i : Int)).f0 (rd_T34 l (i : Int)).f1 (rd_T34 l (i : Int)).f2.f0 (rd_T34 l (i : Int)).f2.f1 && decide ((rd_T34 l (i : Int)).f0 = ((i + 1 : Nat) : Int))) := rfl
    rw [List.range'_succ, List.all_cons, eo]
    refine Ev.step (f := fun k => (impl_GoodRecord.f k (rd_T34 l (i : Int)).f0 (rd_T34 l (i : Int)).f1 (rd_T34 l (i : Int)).f2.f0 (rd_T34 l (i : Int)).f2.f1).bind fun t => if t = true then (if (rd_T34 l (i : Int)).f0 = ((i + 1 : Nat) : Int) then impl_areRecords.l0 k l l (l.length : Int) ((i + 1 : Nat) : Int) else some false) else some false) (fun k => by rw [impl_areRecords.l0, if_pos (by omega), if_pos (by omega), if_pos (by omega), next i (by omega)]) (ev_bind hg ?_)
    cases recordB (rd_T34 l (i : Int)).f0 (rd_T34 l (i : Int)).f1 (rd_T34 l (i : Int)).f2.f0 (rd_T34 l (i : Int)).f2.f1 with
    | false => exact ev_ite_neg (by decide) (ev_some fun _ => rfl)
    | true =>
      refine ev_ite_pos rfl ?_
      by_cases hq : (rd_T34 l (i : Int)).f0 = ((i + 1 : Nat) : Int)
      · rw [decide_eq_true hq]
        exact ev_ite_pos hq (by simpa using ih)
      · rw [decide_eq_false hq]
        exact ev_ite_neg hq (ev_some fun _ => rfl)
theorem logB_good {l : List S34} (h : logB l = true) : l.length ≤ 40 ∧ ∀ r ∈ l, recG r = true := by
  unfold logB at h
  simp only [Bool.and_eq_true, List.all_eq_true, decide_eq_true_eq] at h
  refine ⟨by omega, fun r hr => ?_⟩
  obtain ⟨j, hj, rfl⟩ := List.mem_iff_getElem.1 hr
  have h1 := h.1 j (by rw [List.mem_range']; exact ⟨j, hj, by omega⟩)
  unfold okRec at h1
  simp only [Bool.and_eq_true] at h1
  have e : rd_T34 l (j : Int) = l[j] := by
    show l.getD j z34 = l[j]
    rw [List.getD_eq_getElem?_getD, List.getElem?_eq_getElem hj]
    rfl
  rw [e] at h1
  exact h1.1
def logT (s : ByteArray) (l : List S34) : ByteArray := l.foldl (fun s r => s ++ recT r) s
def logR (s : ByteArray) : ByteArray × Bool := if (s.size : Int) > 600 then (⟨#[]⟩, false) else (s, true)
theorem logT_size : ∀ (l : List S34) (s : ByteArray), (∀ r ∈ l, recG r = true) → (logT s l).size ≤ s.size + 1000000 * l.length
  | [], s, _ => by simp [logT]
  | r :: l, s, h => by
    have ih := logT_size l (s ++ recT r) (fun x hx => h x (List.mem_cons_of_mem _ hx))
    have hz : (recT r).size ≤ 1000000 := rec_size (h r (List.mem_cons_self ..))
    have e : logT s (r :: l) = logT (s ++ recT r) l := rfl
    rw [ByteArray.size_append] at ih
    rw [e, List.length_cons]
    omega
theorem slog_l (l : List S34) (hl : l.length ≤ 40) (hg : ∀ r ∈ l, recG r = true) : ∀ (d i : Nat) (s : ByteArray), i + d = l.length → s.size ≤ 1000000 * i → Ev (fun k => spec_LogText.l0 k s l (l.length : Int) (i : Int)) (logR (logT s (l.drop i)))
  | 0, i, s, h, hs => by
    rw [List.drop_of_length_le (by omega)]
    show Ev _ (logR s)
    unfold logR
    by_cases hq : (s.size : Int) > 600
    · rw [if_pos hq]
      exact ev_stop fun k => by rw [spec_LogText.l0, if_neg (by omega), if_pos hq]
    · rw [if_neg hq]
      exact ev_stop fun k => by rw [spec_LogText.l0, if_neg (by omega), if_neg hq]
  | d + 1, i, s, h, hs => by
    have hr := hg _ (rd_rec_mem l i (by omega))
    have hz : (recT (rd_T34 l (i : Int))).size ≤ 1000000 := rec_size hr
    have ht : Ev (fun k => spec_l10Text.f k (rd_T34 l (i : Int)).f0 (rd_T34 l (i : Int)).f1 (rd_T34 l (i : Int)).f2.f0 (rd_T34 l (i : Int)).f2.f1) (recT (rd_T34 l (i : Int))) := stext_tells hr
    have ih := slog_l l hl hg d (i + 1) (s ++ recT (rd_T34 l (i : Int))) (by omega) (by rw [ByteArray.size_append]; omega)
    rw [rd_rec l i (by omega)]
    refine Ev.step (f := fun k => (spec_l10Text.f k (rd_T34 l (i : Int)).f0 (rd_T34 l (i : Int)).f1 (rd_T34 l (i : Int)).f2.f0 (rd_T34 l (i : Int)).f2.f1).bind fun t => if s.size + t.size ≤ 9223372036854775807 then spec_LogText.l0 k (s ++ t) l (l.length : Int) ((i + 1 : Nat) : Int) else none) (fun k => by rw [spec_LogText.l0, if_pos (by omega), if_pos (by omega), if_pos (by omega), next i (by omega)]) (ev_bind ht (ev_ite_pos (by omega) ih))
theorem ilog_l : ∀ (l : List S34) (s : ByteArray), (∀ r ∈ l, recG r = true) → s.size + 1000000 * l.length ≤ 1000000000 → Ev (fun k => logAll k l s) (logT s l)
  | [], s, _, _ => ev_some fun _ => rfl
  | r :: l, s, hg, hs => by
    have hr := hg r (List.mem_cons_self ..)
    have hz : (recT r).size ≤ 1000000 := rec_size hr
    have ht : Ev (fun k => impl_recordText.f k r.f0 r.f1 r.f2.f0 r.f2.f1) (recT r) := itext_tells hr
    rw [List.length_cons] at hs
    have ih := ilog_l l (s ++ recT r) (fun x hx => hg x (List.mem_cons_of_mem _ hx)) (by rw [ByteArray.size_append]; omega)
    exact ev_bind ht (ev_ite_pos (by omega) ih)
theorem logtext_same (l : List S34) (hl : l.length ≤ 1048576) (hr : ∀ r ∈ l, r.f2.f1.length ≤ 1048576) : ∃ (v : ByteArray) (o : Bool), Ev (fun k => spec_LogText.f k l) (v, o) ∧ Ev (fun k => impl_LogText.f k l) (v, o) := by
  have a : Ev (fun k => spec_l10Records.f k l) (logB l) := srecs_l l hl hr l.length 0 (by omega)
  have b : Ev (fun k => impl_areRecords.f k l) (logB l) := irecs_l l hl hr l.length 0 (by omega)
  unfold spec_LogText.f impl_LogText.f
  cases hq : logB l with
  | false =>
    rw [hq] at a b
    exact ⟨⟨#[]⟩, false, ev_bind a (ev_ite_neg (by decide) (ev_some fun _ => rfl)), ev_bind b (ev_ite_neg (by decide) (ev_some fun _ => rfl))⟩
  | true =>
    rw [hq] at a b
    obtain ⟨h40, hg⟩ := logB_good hq
    have hs := slog_l l h40 hg l.length 0 ⟨#[]⟩ (by omega) (by decide)
    rw [List.drop_zero] at hs
    have hi := ilog_l l ⟨#[]⟩ hg (by have : (⟨#[]⟩ : ByteArray).size = 0 := rfl; omega)
    have hz := logT_size l ⟨#[]⟩ hg
    have e0 : (⟨#[]⟩ : ByteArray).size = 0 := rfl
    rw [e0] at hz
    refine ⟨(logR (logT ⟨#[]⟩ l)).1, (logR (logT ⟨#[]⟩ l)).2, ev_bind a (ev_ite_pos rfl hs), ev_bind b (ev_ite_pos rfl (ev_bind hi (ev_ite_pos ⟨by omega, by omega⟩ ?_)))⟩
    by_cases h6 : ((logT ⟨#[]⟩ l).size : Int) > 600
    · have e : logR (logT ⟨#[]⟩ l) = (⟨#[]⟩, false) := if_pos h6
      rw [e]
      exact ev_ite_pos h6 (ev_some fun _ => rfl)
    · have e : logR (logT ⟨#[]⟩ l) = (logT ⟨#[]⟩ l, true) := if_neg h6
      rw [e]
      exact ev_ite_neg h6 (ev_some fun _ => rfl)

theorem rd_lrec (l : List S26) (i : Nat) (h : i < l.length) : l.drop i = rd_T26 l (i : Int) :: l.drop (i + 1) := by
  rw [List.drop_eq_getElem_cons h]
  congr 1
  show l[i] = l.getD i z26
  rw [List.getD_eq_getElem?_getD, List.getElem?_eq_getElem h]
  rfl
theorem rd_lrec_mem (l : List S26) (i : Nat) (h : i < l.length) : rd_T26 l (i : Int) ∈ l := by
  show l.getD i z26 ∈ l
  rw [List.getD_eq_getElem?_getD, List.getElem?_eq_getElem h]
  exact List.getElem_mem h
theorem szrec (r : S26) (m : Int) (h0 : 0 ≤ m) (h1 : m ≤ 1048576) (hr : r.f2.f1.length ≤ maxLen) : ∃ z, laws_szRecord.f r.f0 r.f1 r.f2.f0 r.f2.f1 m = some z ∧ (0 ≤ z → z ≤ m ∧ (r.f2.f1.length : Int) ≤ m) := by
  unfold laws_szRecord.f laws_szRow.f
  rw [szvalue r.f2.f1 m h0 h1 hr, Option.bind_some]
  by_cases h : m < (r.f2.f1.length : Int)
  · exact ⟨-1, by simp [h], by omega⟩
  · rw [if_neg h, if_neg (by omega), Option.bind_some, if_neg (by omega)]
    exact ⟨_, rfl, by omega⟩
theorem szrecs_l (l : List S26) (hl : l.length ≤ 1048576) (hr : ∀ r ∈ l, r.f2.f1.length ≤ maxLen) : ∀ (d i : Nat) (m : Int), i + d = l.length → 0 ≤ m → m ≤ 1048576 → ∃ t, Ev (fun k => laws_szRecordS.l0 k l m (i : Int)) t ∧ (0 ≤ t → ∀ r ∈ l.drop i, r.f2.f1.length ≤ 1048576)
  | 0, i, m, h, h0, h1 => ⟨m, ev_stop fun k => by rw [laws_szRecordS.l0, if_neg (by omega)], fun _ r hr => by rw [List.drop_of_length_le (by omega)] at hr; simp at hr⟩
  | d + 1, i, m, h, h0, h1 => by
    obtain ⟨z, hz, hb⟩ := szrec (rd_T26 l (i : Int)) m h0 h1 (hr _ (rd_lrec_mem l i (by omega)))
    by_cases hn : z < 0
    · exact ⟨-1, ev_stop fun k => by rw [laws_szRecordS.l0, if_pos (by omega), if_pos (by omega), hz, Option.bind_some, if_pos hn], by omega⟩
    · have hb := hb (by omega)
      obtain ⟨t, ht, hb2⟩ := szrecs_l l hl hr d (i + 1) z (by omega) (by omega) (by omega)
      refine ⟨t, ev_step ht fun k => by rw [laws_szRecordS.l0, if_pos (by omega), if_pos (by omega), hz, Option.bind_some, if_neg hn, next i (by omega)], fun h2 r hr2 => ?_⟩
      rw [rd_lrec l i (by omega)] at hr2
      rcases List.mem_cons.1 hr2 with e | hr2
      · rw [e]; omega
      · exact hb2 h2 r hr2
theorem szrecs (l : List S26) (hl : l.length ≤ maxLen) (hr : ∀ r ∈ l, r.f2.f1.length ≤ maxLen) : ∃ t, Ev (fun k => laws_szRecordS.f k l 1048576) t ∧ (0 ≤ t → l.length ≤ 1048576 ∧ ∀ r ∈ l, r.f2.f1.length ≤ 1048576) := by
  have hm : maxLen ≤ 9223372036854775807 := by decide
  unfold laws_szRecordS.f
  rw [w64 (by omega) (by omega)]
  by_cases hc : 1048576 - (l.length : Int) < 0
  · exact ⟨-1, ev_ite_pos hc (ev_some fun _ => rfl), by omega⟩
  · obtain ⟨t, ht, hb⟩ := szrecs_l l (by omega) hr l.length 0 (1048576 - l.length) (by omega) (by omega) (by omega)
    rw [List.drop_zero] at hb
    exact ⟨t, ev_ite_neg hc ht, fun h => ⟨by omega, hb h⟩⟩
def convRec (r : S26) : S34 := ⟨r.f0, r.f1, ⟨r.f2.f0, r.f2.f1.map convValue⟩⟩
theorem torecs_l (l : List S26) (hl : l.length ≤ 1048576) (hr : ∀ r ∈ l, r.f2.f1.length ≤ 1048576) : ∀ (d i : Nat) (m : List S34), m.length = l.length → i + d = l.length → m.take i = (l.take i).map convRec → Ev (fun k => laws_toRecordS.l0 k l m (i : Int)) (l.map convRec)
  | 0, i, m, hm, h, ht => ev_stop fun k => by
    rw [laws_toRecordS.l0, if_neg (by omega)]
    rw [List.take_of_length_le (by omega), List.take_of_length_le (by omega)] at ht
    rw [ht]
  | d + 1, i, m, hm, h, ht => by
    have hw := hr _ (rd_lrec_mem l i (by omega))
    have hT : Ev (fun k => laws_toRecord.f k (rd_T26 l (i : Int)).f0 (rd_T26 l (i : Int)).f1 (rd_T26 l (i : Int)).f2.f0 (rd_T26 l (i : Int)).f2.f1) ((rd_T26 l (i : Int)).f0, (rd_T26 l (i : Int)).f1, (rd_T26 l (i : Int)).f2.f0, (rd_T26 l (i : Int)).f2.f1.map convValue) := by
      unfold laws_toRecord.f laws_toRow.f
      exact ev_bind (ev_bind (toValue_tells _ hw) (ev_some fun _ => rfl)) (ev_some fun _ => rfl)
    have ih := torecs_l l hl hr d (i + 1) (m.set i (convRec (rd_T26 l (i : Int)))) (by simpa using hm) (by omega) (by
      have e : l.take (i + 1) = l.take i ++ [rd_T26 l (i : Int)] := by
        rw [List.take_succ_eq_append_getElem (by omega)]
        congr 2
        show l[i] = l.getD i z26
        rw [List.getD_eq_getElem?_getD, List.getElem?_eq_getElem (show i < l.length by omega)]
        rfl
      rw [e, List.map_append, List.take_succ_eq_append_getElem (by simp; omega), List.take_set_of_le (Nat.le_refl i), ht]
      simp)
    refine Ev.step (f := fun k => (laws_toRecord.f k (rd_T26 l (i : Int)).f0 (rd_T26 l (i : Int)).f1 (rd_T26 l (i : Int)).f2.f0 (rd_T26 l (i : Int)).f2.f1).bind fun bt => laws_toRecordS.l0 k l (m.set i ⟨bt.1, bt.2.1, ⟨bt.2.2.1, bt.2.2.2⟩⟩) ((i + 1 : Nat) : Int)) (fun k => ?_) (ev_bind hT ih)
    rw [laws_toRecordS.l0, if_pos (by omega), if_pos (by omega)]
    refine congrArg (Option.bind _) (funext fun bt => ?_)
    rw [if_pos (by omega), next i (by omega), Int.toNat_natCast]
theorem torecs_tells (l : List S26) (hl : l.length ≤ 1048576) (hr : ∀ r ∈ l, r.f2.f1.length ≤ 1048576) : Ev (fun k => laws_toRecordS.f k l) (l.map convRec) := by
  refine Ev.congr (g := fun k => laws_toRecordS.f k l) (fun k => ?_) (torecs_l l hl hr l.length 0 (List.replicate l.length z34) (by simp) (by omega) (by simp))
  unfold laws_toRecordS.f
  rw [if_pos (by omega), Int.toNat_natCast, if_pos (by omega)]
  rfl
theorem eqrecs_l (l : List S34) (hl : l.length ≤ 1048576) (hr : ∀ r ∈ l, r.f2.f1.length ≤ 1048576) : ∀ (d i : Nat), i + d = l.length → Ev (fun k => laws_eqRecordS.l0 k l l (i : Int)) true
  | 0, i, h => ev_stop fun k => by rw [laws_eqRecordS.l0, if_neg (by omega)]
  | d + 1, i, h => by
    have hw := hr _ (rd_rec_mem l i (by omega))
    have ih := eqrecs_l l hl hr d (i + 1) (by omega)
    have eR : Ev (fun k => laws_eqRecord.f k (rd_T34 l (i : Int)).f0 (rd_T34 l (i : Int)).f1 (rd_T34 l (i : Int)).f2.f0 (rd_T34 l (i : Int)).f2.f1 (rd_T34 l (i : Int)).f0 (rd_T34 l (i : Int)).f1 (rd_T34 l (i : Int)).f2.f0 (rd_T34 l (i : Int)).f2.f1) true := by
      unfold laws_eqRecord.f laws_eqRow.f
      refine ev_ite_pos rfl (ev_ite_neg (by simp) (ev_bind (a := true) ?_ (ev_some fun _ => rfl)))
      exact ev_ite_pos rfl (ev_bind (eqValue_tells _ (by omega)) (ev_some fun _ => rfl))
    refine Ev.step (f := fun k => (laws_eqRecord.f k (rd_T34 l (i : Int)).f0 (rd_T34 l (i : Int)).f1 (rd_T34 l (i : Int)).f2.f0 (rd_T34 l (i : Int)).f2.f1 (rd_T34 l (i : Int)).f0 (rd_T34 l (i : Int)).f1 (rd_T34 l (i : Int)).f2.f0 (rd_T34 l (i : Int)).f2.f1).bind fun t => if t = true then laws_eqRecordS.l0 k l l ((i + 1 : Nat) : Int) else some false) (fun k => by rw [laws_eqRecordS.l0, if_pos (by omega), if_pos (by omega), if_pos (by omega), next i (by omega)]) (ev_bind eR (ev_ite_pos rfl ih))
theorem FnExactLogText : laws_FnExactLogText.Good := by
  rintro l0 ⟨hm, hg⟩
  refine Ev.rounds ?_
  unfold laws_FnExactLogText.f
  have hr0 : ∀ r ∈ l0, r.f2.f1.length ≤ maxLen := fun r hr => ((hg r hr).2.2.2).1
  obtain ⟨t, ht, hb⟩ := szrecs l0 hm hr0
  refine ev_bind ht ?_
  by_cases hn : t < 0
  · exact ev_ite_pos hn (ev_some fun _ => rfl)
  refine ev_ite_neg hn ?_
  obtain ⟨h1, h2⟩ := hb (by omega)
  have hT := torecs_tells l0 h1 h2
  have hl : (l0.map convRec).length ≤ 1048576 := by simpa using h1
  have hr : ∀ r ∈ l0.map convRec, r.f2.f1.length ≤ 1048576 := fun r hr => by
    obtain ⟨x, hx, rfl⟩ := List.mem_map.1 hr
    simpa [convRec] using h2 x hx
  generalize l0.map convRec = u at hT hl hr
  obtain ⟨v, o, hs, hi⟩ := logtext_same u hl hr
  refine ev_bind hT (ev_bind hs (ev_bind hT (ev_bind hi (ev_ite_pos rfl ?_))))
  refine Ev.step (fun k => by rw [laws_FnExactLogText.j0]) ?_
  exact ev_ite_neg (by simp) (ev_bind hT (ev_bind (ev_ite_pos rfl (eqrecs_l u hl hr u.length 0 (by omega))) (ev_ite_pos rfl (ev_some fun _ => rfl))))

end Go.Proofs.YtcihgepinnajjaaDoor.Pure
