/- The law FnExactCutLog: the program's function tells what the reference tells, for all arguments; here: of the two as plain functions of numbers and lists. -/
import Derived.Test.YtcihgepinnajjaaDoorQFnExactCutLog
namespace Go.Proofs.YtcihgepinnajjaaDoor.Pure
open Go.RowKit Go.Proofs.YtcihgepinnajjaaDoor.PFnExactCutLog Go.Proofs.YtcihgepinnajjaaDoorW.PrintWords Go.Proofs.YtcihgepinnajjaaDoorW.PrintLast Go.Proofs.YtcihgepinnajjaaDoorW.PrintMore
set_option linter.unusedVariables false
set_option linter.unusedSimpArgs false
set_option linter.unnecessarySimpa false

theorem w64 {i : Int} (h0 : -9223372036854775808 ≤ i) (h1 : i ≤ 9223372036854775807) : wrap64 i = i := by
  unfold wrap64
  omega

theorem rdn (l : List Int) (i : Nat) : rd l (i : Int) = l.getD i 0 := by simp [rd]

/-- A round of a loop, then what it comes to. -/
theorem ev_step {α : Type} {g f : Nat → Option α} {r : α} (k : Ev f r) (h : ∀ k, g (k + 1) = f k) : Ev g r := Ev.step h k
theorem ev_some {α : Type} {g : Nat → Option α} {r : α} (h : ∀ k, g k = some r) : Ev g r := ⟨0, fun k _ => h k⟩
theorem ev_stop {α : Type} {g : Nat → Option α} {r : α} (h : ∀ k, g (k + 1) = some r) : Ev g r := Ev.step h (Ev.now r)
theorem ev_bind {α β : Type} {g : Nat → Option α} {f : Nat → α → Option β} {a : α} {r : β} (h : Ev g a) (k : Ev (fun n => f n a) r) : Ev (fun n => (g n).bind (f n)) r := Ev.bind h k
theorem ev_some_bind {α β : Type} {g : Option α} {f : Nat → α → Option β} {a : α} {r : β} (h : g = some a) (k : Ev (fun n => f n a) r) : Ev (fun n => g.bind (f n)) r := by
  subst h
  exact k
theorem ev_ite_pos {α : Type} {c : Prop} [Decidable c] {g f : Nat → Option α} {r : α} (hc : c) (h : Ev g r) : Ev (fun n => if c then g n else f n) r := Ev.congr (fun _ => if_pos hc) h
theorem ev_ite_neg {α : Type} {c : Prop} [Decidable c] {g f : Nat → Option α} {r : α} (hc : ¬ c) (h : Ev f r) : Ev (fun n => if c then g n else f n) r := Ev.congr (fun _ => if_neg hc) h

def inB (a b x : Int) : Bool := decide (a ≤ x) && decide (x ≤ b)
theorem drop_at (l : List Int) (i : Nat) (h : i < l.length) : l.drop i = l.getD i 0 :: l.drop (i + 1) := by
  rw [List.drop_eq_getElem_cons h]
  simp [List.getD, List.getElem?_eq_getElem h]
/-- What a search for a fault comes to, round by round. -/
theorem all_ends {F : Nat → Nat → Option Bool} {p : Nat → Bool} {r : Bool} {n : Nat} (stop : Ev (fun k => F k n) r) (go : ∀ i, i < n → p i = true → ∀ q, Ev (fun k => F k (i + 1)) q → Ev (fun k => F k i) q) (no : ∀ i, i < n → p i = false → Ev (fun k => F k i) false) :
    ∀ (d i : Nat), i + d = n → Ev (fun k => F k i) ((List.range' i d).all p && r)
  | 0, i, h => by
    obtain rfl : i = n := by omega
    simpa using stop
  | d + 1, i, h => by
    have ih := all_ends stop go no d (i + 1) (by omega)
    rw [List.range'_succ, List.all_cons, Bool.and_assoc]
    cases hp : p i with
    | true => simpa using go i (by omega) hp _ ih
    | false => simpa using no i (by omega) hp
theorem all_from {F : Nat → Nat → Option Bool} {p : Nat → Bool} {r : Bool} {n : Nat} (stop : Ev (fun k => F k n) r) (go : ∀ i, i < n → p i = true → ∀ q, Ev (fun k => F k (i + 1)) q → Ev (fun k => F k i) q) (no : ∀ i, i < n → p i = false → Ev (fun k => F k i) false) :
    Ev (fun k => F k 0) ((List.range n).all p && r) := by
  rw [List.range_eq_range']
  exact all_ends stop go no n 0 (by omega)
theorem next (i : Nat) (h : i < 4611686018427387904) : wrap64 ((i : Int) + 1) = ((i + 1 : Nat) : Int) := by
  rw [w64 (by omega) (by omega)]
  omega

theorem drop_val (l : List S76) (i : Nat) (h : i < l.length) : l.drop i = rd_T76 l i :: l.drop (i + 1) := by
  rw [List.drop_eq_getElem_cons h]
  simp [rd_T76, List.getD, List.getElem?_eq_getElem h]
theorem eqValue_l (l : List S76) (hl : l.length ≤ 4611686018427387903) : ∀ (d i : Nat), i + d = l.length → Ev (fun k => laws_eqValueS.l0 k l l (i : Int)) true
  | 0, i, h => ev_stop fun k => by
    rw [laws_eqValueS.l0, if_neg (by omega)]
  | d + 1, i, h => by
    refine ev_step (eqValue_l l hl d (i + 1) (by omega)) fun k => by
      rw [laws_eqValueS.l0, if_pos (by omega), if_pos (by omega), if_pos (by omega)]
      unfold laws_eqValue.f
      simp [next i (by omega)]
theorem eqValue_tells (l : List S76) (hl : l.length ≤ 4611686018427387903) : Ev (fun k => laws_eqValueS.f k l l) true := by
  refine Ev.congr (g := fun k => laws_eqValueS.f k l l) (fun k => ?_) (eqValue_l l hl l.length 0 (by omega))
  unfold laws_eqValueS.f
  rw [if_pos rfl]
  rfl

theorem within_tells (a b c : Int) : impl_within.f a b c = some (decide (b ≤ a) && decide (a ≤ c)) := by
  unfold impl_within.f
  by_cases h : a ≥ b
  · rw [if_pos h]; simp [show b ≤ a from h]
  · rw [if_neg h]; simp [show ¬ b ≤ a from h]

theorem sin_tells (a b c : Int) : spec_l1In.f a b c = some (decide (b ≤ a) && decide (a ≤ c)) := by
  unfold spec_l1In.f
  by_cases h : a ≥ b
  · rw [if_pos h]; simp [show b ≤ a from h]
  · rw [if_neg h]; simp [show ¬ b ≤ a from h]

def goodVal (x : S76) : Bool := inB (-1000) 1000 x.f1 && (!x.f0 || decide (x.f1 = 0))
theorem sval_tells (x : S76) : spec_GoodValue.f x.f0 x.f1 = some (goodVal x) := by
  unfold spec_GoodValue.f goodVal
  rw [sin_tells, Option.bind_some]
  change (if inB (-1000) 1000 x.f1 = true then _ else _) = _
  cases inB (-1000) 1000 x.f1 with
  | false => rfl
  | true =>
    cases x.f0 with
    | false => rfl
    | true => rfl
theorem ival_tells (x : S76) : impl_GoodValue.f x.f0 x.f1 = some (goodVal x) := by
  unfold impl_GoodValue.f goodVal impl_isSmall.f
  rw [within_tells, Option.bind_some]
  cases x.f0 with
  | false => simp [inB]
  | true =>
    by_cases h : x.f1 = 0
    · simp [h, inB]
    · simp [h]
theorem srow_l (key : Int) (l m : List S76) (hl : l.length ≤ 1048576) : ∀ (d i : Nat), i + d = l.length → Ev (fun k => spec_l2Row.l0 k l (l.length : Int) (i : Int) key m) ((l.drop i).all goodVal && (inB 0 999 key && decide (m.length = 3)))
  | 0, i, h => ev_stop fun k => by
    rw [spec_l2Row.l0, if_neg (by omega), sin_tells, Option.bind_some, List.drop_of_length_le (by omega)]
    change (if inB 0 999 key = true then some ((m.length : Int) == 3) else some false) = _
    cases inB 0 999 key with
    | false => rfl
    | true =>
      rw [if_pos rfl]
      by_cases h3 : m.length = 3
      · simp [h3]
      · have : ((m.length : Int) == 3) = false := beq_eq_false_iff_ne.mpr (by omega)
        rw [this]
        simp [h3]
  | d + 1, i, h => by
    have ih := srow_l key l m hl d (i + 1) (by omega)
    rw [drop_val l i (by omega), List.all_cons, Bool.and_assoc]
    refine Ev.step (f := fun k => if goodVal (rd_T76 l i) = true then spec_l2Row.l0 k l (l.length : Int) ((i + 1 : Nat) : Int) key m else some false) (fun k => ?_) ?_
    · rw [spec_l2Row.l0, if_pos (by omega), if_pos (by omega), if_pos (by omega), sval_tells, Option.bind_some, next i (by omega)]
    · cases goodVal (rd_T76 l i) with
      | true => simpa using ih
      | false => exact ev_some fun k => by simp
theorem srow_tells (key : Int) (l : List S76) (hl : l.length ≤ 1048576) : Ev (fun k => spec_l2Row.f k key l) (l.all goodVal && (inB 0 999 key && decide (l.length = 3))) := by
  have h := srow_l key l l hl l.length 0 (by omega)
  rw [List.drop_zero] at h
  exact h
theorem ivals_l (l : List S76) (hl : l.length ≤ 1048576) : ∀ (d i : Nat), i + d = l.length → Ev (fun k => impl_areValues.l0 k l (l.length : Int) (i : Int)) ((l.drop i).all goodVal)
  | 0, i, h => ev_stop fun k => by
    rw [impl_areValues.l0, if_neg (by omega), List.drop_of_length_le (by omega)]
    rfl
  | d + 1, i, h => by
    have ih := ivals_l l hl d (i + 1) (by omega)
    rw [drop_val l i (by omega), List.all_cons]
    refine Ev.step (f := fun k => if goodVal (rd_T76 l i) = true then impl_areValues.l0 k l (l.length : Int) ((i + 1 : Nat) : Int) else some false) (fun k => ?_) ?_
    · rw [impl_areValues.l0, if_pos (by omega), if_pos (by omega), if_pos (by omega), ival_tells, Option.bind_some, next i (by omega)]
    · cases goodVal (rd_T76 l i) with
      | true => simpa using ih
      | false => exact ev_some fun k => by simp
theorem ikey_tells (key : Int) : impl_isKey.f key = some (inB 0 999 key) := by
  unfold impl_isKey.f
  rw [within_tells]
  rfl
theorem irow_tells (key : Int) (l : List S76) (hl : l.length ≤ 1048576) : Ev (fun k => impl_isRow.f k key l) (l.all goodVal && (inB 0 999 key && decide (l.length = 3))) := by
  unfold impl_isRow.f
  refine ev_some_bind (ikey_tells key) ?_
  cases inB 0 999 key with
  | false => exact ev_ite_neg (by simp) (ev_some fun _ => by simp)
  | true =>
    refine ev_ite_pos rfl ?_
    by_cases h3 : l.length = 3
    · have h := ivals_l l hl l.length 0 (by omega)
      rw [List.drop_zero] at h
      exact ev_ite_pos (by omega) (ev_bind h (ev_some fun _ => by simp [h3]))
    · exact ev_ite_neg (by omega) (ev_some fun _ => by simp [h3])

/-- A text's bytes. -/
abbrev tl (s : ByteArray) : List UInt8 := s.data.toList
theorem tl_app (a b : ByteArray) : tl (a ++ b) = tl a ++ tl b := by
  show (a ++ b).data.toList = _
  rw [ByteArray.data_append, Array.toList_append]
theorem tl_inj {a b : ByteArray} (h : tl a = tl b) : a = b := by
  cases a
  cases b
  congr 1
  exact Array.toList_inj.1 h
theorem tl_size (s : ByteArray) : s.size = (tl s).length := by
  show s.data.size = _
  rw [Array.length_toList]
theorem dec_len : ∀ u : Nat, (Lib.decDigits u).length ≤ u + 1 := fun u => by
  induction u using Nat.strongRecOn with
  | ind u ih =>
    rw [Lib.decDigits]
    split
    · simp
    · have := ih (u / 10) (by omega)
      simp
      omega
theorem itoa_size (n : Int) (h0 : -100000 ≤ n) (h1 : n ≤ 100000) : (itoaB n).size ≤ 100010 := by
  rw [tl_size]
  show (Lib.itoa n).toArray.toList.length ≤ _
  unfold Lib.itoa
  split
  · have := dec_len n.natAbs
    simp
    omega
  · have := dec_len n.toNat
    simp
    omega
theorem digit_str (d : Nat) (h : d < 10) : strOfNums [(wrap64 (48 + (d : Int))) % 256] = ⟨#[UInt8.ofNat (48 + d)]⟩ := by
  rw [w64 (by omega) (by omega)]
  have hd : d = 0 ∨ d = 1 ∨ d = 2 ∨ d = 3 ∨ d = 4 ∨ d = 5 ∨ d = 6 ∨ d = 7 ∨ d = 8 ∨ d = 9 := by omega
  rcases hd with h | h | h | h | h | h | h | h | h | h <;> subst h <;> rfl
theorem num_tells : ∀ u : Nat, u ≤ 100000 → Ev (fun k => spec_l1Num.f k (u : Int)) (itoaB (u : Int)) := fun u => by
  induction u using Nat.strongRecOn with
  | ind u ih =>
    intro hu
    have e : itoaB (u : Int) = ⟨(Lib.decDigits u).toArray⟩ := by
      unfold itoaB Lib.itoa
      rw [if_neg (by omega), Int.toNat_natCast]
    by_cases h : u < 10
    · rw [e, Lib.decDigits, dif_pos h]
      exact ev_stop fun k => by rw [spec_l1Num.f, if_pos (by omega), digit_str u h]
    · have i1 := ih (u / 10) (by omega) (by omega)
      have ed : wrap64 (Int.tdiv (u : Int) 10) = ((u / 10 : Nat) : Int) := by rw [Int.tdiv_eq_ediv_of_nonneg (by omega), w64 (by omega) (by omega)]; omega
      have em : Int.tmod (u : Int) 10 = ((u % 10 : Nat) : Int) := by rw [Int.tmod_eq_emod_of_nonneg (by omega)]; omega
      have hs := itoa_size ((u / 10 : Nat) : Int) (by omega) (by omega)
      refine Ev.step (f := fun k => (spec_l1Num.f k ((u / 10 : Nat) : Int)).bind fun t => if t.size + (⟨#[UInt8.ofNat (48 + u % 10)]⟩ : ByteArray).size ≤ 9223372036854775807 then some (t ++ ⟨#[UInt8.ofNat (48 + u % 10)]⟩) else none) (fun k => by
        rw [spec_l1Num.f, if_neg (by omega), ed, em]
        refine congrArg (Option.bind _) (funext fun t => ?_)
        rw [Option.bind_some, digit_str (u % 10) (by omega)]) (ev_bind i1 (ev_ite_pos ?_ (ev_some fun _ => ?_)))
      · have : (⟨#[UInt8.ofNat (48 + u % 10)]⟩ : ByteArray).size = 1 := rfl
        omega
      · congr 1
        refine tl_inj ?_
        rw [tl_app, e]
        show (Lib.itoa ((u / 10 : Nat) : Int)).toArray.toList ++ _ = (Lib.decDigits u).toArray.toList
        unfold Lib.itoa
        rw [if_neg (by omega), Int.toNat_natCast]
        conv => rhs; rw [Lib.decDigits, dif_neg h]
theorem num_int (n : Int) (h0 : 0 ≤ n) (h1 : n ≤ 100000) : Ev (fun k => spec_l1Num.f k n) (itoaB n) := by
  obtain ⟨u, rfl⟩ := Int.eq_ofNat_of_zero_le h0
  exact num_tells u (by omega)
theorem signed_tells (n : Int) (h0 : -100000 ≤ n) (h1 : n ≤ 100000) : Ev (fun k => spec_l1Signed.f k n) (itoaB n) := by
  unfold spec_l1Signed.f
  by_cases h : n < 0
  · have hs := itoa_size (-n) (by omega) (by omega)
    refine ev_ite_pos h ?_
    rw [w64 (i := -n) (by omega) (by omega)]
    refine ev_bind (num_int (-n) (by omega) (by omega)) (ev_ite_pos (by omega) (ev_some fun _ => ?_))
    congr 1
    refine tl_inj ?_
    rw [tl_app]
    show [45] ++ (Lib.itoa (-n)).toArray.toList = (Lib.itoa n).toArray.toList
    unfold Lib.itoa
    rw [if_neg (by omega), if_pos h, show (-n).toNat = n.natAbs by omega]
    simp
  · exact ev_ite_neg h (ev_bind (num_int n (by omega) h1) (ev_some fun _ => rfl))
/-- What a text's bytes come to, each by its place, of the first i. -/
def csum (s : ByteArray) : Nat → Int
  | 0 => 0
  | i + 1 => csum s i + bt s (i : Int) * ((i : Int) + 1)
theorem csum_step (s : ByteArray) (i : Nat) (h : i ≤ 1000000) : 0 ≤ bt s (i : Int) * ((i : Int) + 1) ∧ bt s (i : Int) * ((i : Int) + 1) ≤ 255000255 := by
  have hb := bt_range s (i : Int)
  have h1 : bt s (i : Int) * ((i : Int) + 1) ≤ 255 * ((i : Int) + 1) := Int.mul_le_mul_of_nonneg_right hb.2 (by omega)
  exact ⟨Int.mul_nonneg hb.1 (by omega), by omega⟩
theorem csum_bd (s : ByteArray) : ∀ i : Nat, i ≤ 1000000 → 0 ≤ csum s i ∧ csum s i ≤ 255000255 * (i : Int)
  | 0, _ => by simp [csum]
  | i + 1, h => by
    have ih := csum_bd s i (by omega)
    have hs := csum_step s i (by omega)
    rw [csum]
    omega
theorem ssum_l (s : ByteArray) (hs : s.size ≤ 1000000) : ∀ (d i : Nat), i + d = s.size → Ev (fun k => spec_l10Sum.l0 k s (Int.tmod (csum s i) 9973) (i : Int)) (Int.tmod (csum s s.size) 9973)
  | 0, i, h => by
    obtain rfl : i = s.size := by omega
    exact ev_stop fun k => by rw [spec_l10Sum.l0, if_neg (by omega)]
  | d + 1, i, h => by
    have ih := ssum_l s hs d (i + 1) (by omega)
    have hb := bt_range s (i : Int)
    have hq := csum_step s i (by omega)
    have hc := csum_bd s i (by omega)
    have hm : 0 ≤ Int.tmod (csum s i) 9973 ∧ Int.tmod (csum s i) 9973 < 9973 := ⟨Int.tmod_nonneg _ hc.1, Int.tmod_lt_of_pos _ (by omega)⟩
    have e : Int.tmod (wrap64 (Int.tmod (csum s i) 9973 + wrap64 (wrap64 ((i : Int) + 1) * wrap64 (bt s (i : Int))))) 9973 = Int.tmod (csum s (i + 1)) 9973 := by
      rw [w64 (i := (i : Int) + 1) (by omega) (by omega), w64 (i := bt s (i : Int)) (by omega) (by omega), Int.mul_comm ((i : Int) + 1), w64 (i := bt s (i : Int) * ((i : Int) + 1)) (by omega) (by omega), w64 (by omega) (by omega), csum]
      generalize bt s (i : Int) * ((i : Int) + 1) = q at hq
      rw [Int.tmod_eq_emod_of_nonneg hc.1, Int.tmod_eq_emod_of_nonneg (by omega), Int.tmod_eq_emod_of_nonneg (by omega)]
      omega
    exact ev_step ih fun k => by rw [spec_l10Sum.l0, if_pos (by omega), if_pos (by omega), e, next i (by omega)]
theorem ssum_tells (s : ByteArray) (hs : s.size ≤ 1000000) : Ev (fun k => spec_l10Sum.f k s) (Int.tmod (csum s s.size) 9973) := ssum_l s hs s.size 0 (by omega)
theorem itoa_f (n : Int) (h0 : -100000 ≤ n) (h1 : n ≤ 100000) : strconv_Itoa.f n = some (itoaB n) := by
  unfold strconv_Itoa.f
  rw [if_pos ⟨by omega, by omega⟩]
/-- A text with the sum of its bytes behind it. -/
def checkedB (s : ByteArray) : ByteArray := (s ++ ⟨#[32]⟩) ++ itoaB (Int.tmod (csum s s.size) 9973)
theorem checked_l (s : ByteArray) (hs : s.size ≤ 1000000) : ∀ (d i : Nat), i + d = s.size → Ev (fun k => impl_checked.l0 k s (csum s i) (s.size : Int) (i : Int)) (checkedB s)
  | 0, i, h => by
    obtain rfl : i = s.size := by omega
    have hc := csum_bd s s.size hs
    have hm : 0 ≤ Int.tmod (csum s s.size) 9973 ∧ Int.tmod (csum s s.size) 9973 < 9973 := ⟨Int.tmod_nonneg _ hc.1, Int.tmod_lt_of_pos _ (by omega)⟩
    have hz := itoa_size (Int.tmod (csum s s.size) 9973) (by omega) (by omega)
    have e1 : (s ++ (⟨#[32]⟩ : ByteArray)).size = s.size + 1 := by rw [ByteArray.size_append]; rfl
    exact ev_stop fun k => by rw [impl_checked.l0, if_neg (by omega), if_pos (by omega), itoa_f _ (by omega) (by omega), Option.bind_some, if_pos (by omega)]; rfl
  | d + 1, i, h => by
    have ih := checked_l s hs d (i + 1) (by omega)
    have hb := bt_range s (i : Int)
    have hq := csum_step s i (by omega)
    have hc := csum_bd s i (by omega)
    have e : wrap64 (csum s i + wrap64 (wrap64 (bt s (i : Int)) * wrap64 ((i : Int) + 1))) = csum s (i + 1) := by
      rw [w64 (i := (i : Int) + 1) (by omega) (by omega), w64 (i := bt s (i : Int)) (by omega) (by omega), w64 (i := bt s (i : Int) * ((i : Int) + 1)) (by omega) (by omega), w64 (by omega) (by omega), csum]
    exact ev_step ih fun k => by rw [impl_checked.l0, if_pos (by omega), if_pos (by omega), if_pos (by omega), e, next i (by omega)]
theorem checked_tells (s : ByteArray) (hs : s.size ≤ 1000000) : Ev (fun k => impl_checked.f k s) (checkedB s) := checked_l s hs s.size 0 (by omega)
theorem checked_size (s : ByteArray) (hs : s.size ≤ 1000000) : (checkedB s).size ≤ s.size + 100020 := by
  have hc := csum_bd s s.size hs
  have hm : 0 ≤ Int.tmod (csum s s.size) 9973 ∧ Int.tmod (csum s s.size) 9973 < 9973 := ⟨Int.tmod_nonneg _ hc.1, Int.tmod_lt_of_pos _ (by omega)⟩
  have hz := itoa_size (Int.tmod (csum s s.size) 9973) (by omega) (by omega)
  have e1 : (⟨#[32]⟩ : ByteArray).size = 1 := rfl
  unfold checkedB
  rw [ByteArray.size_append, ByteArray.size_append]
  omega

def recordB (no : Int) (dr : Bool) (key : Int) (l : List S76) : Bool := inB 1 200 no && (if dr = true then inB 0 999 key && decide (l.length = 0) else (l.all goodVal && (inB 0 999 key && decide (l.length = 3))))
theorem len0 (l : List S76) : ((l.length : Int) == 0) = decide (l.length = 0) := by
  by_cases h : l.length = 0
  · simp [h]
  · rw [decide_eq_false h]
    exact beq_eq_false_iff_ne.mpr (by omega)
theorem srecord_tells (no : Int) (dr : Bool) (key : Int) (l : List S76) (hl : l.length ≤ 1048576) : Ev (fun k => spec_GoodRecord.f k no dr key l) (recordB no dr key l) := by
  have s1 : spec_l1In.f no 1 200 = some (inB 1 200 no) := sin_tells no 1 200
  have s2 : spec_l1In.f key 0 999 = some (inB 0 999 key) := sin_tells key 0 999
  unfold spec_GoodRecord.f recordB
  rw [s1, s2]
  cases inB 1 200 no with
  | false => exact ev_some fun _ => rfl
  | true =>
    refine ev_some_bind rfl (ev_ite_pos rfl ?_)
    cases dr with
    | false => exact ev_ite_neg (by simp) (ev_bind (srow_tells key l hl) (ev_some fun _ => by simp))
    | true =>
      refine ev_ite_pos rfl (ev_some_bind rfl ?_)
      rw [len0]
      cases inB 0 999 key with
      | false => exact ev_some fun _ => rfl
      | true => exact ev_some fun _ => rfl
theorem irecord_tells (no : Int) (dr : Bool) (key : Int) (l : List S76) (hl : l.length ≤ 1048576) : Ev (fun k => impl_GoodRecord.f k no dr key l) (recordB no dr key l) := by
  have s1 : impl_within.f no 1 200 = some (inB 1 200 no) := within_tells no 1 200
  unfold impl_GoodRecord.f recordB
  rw [s1, ikey_tells]
  cases inB 1 200 no with
  | false => exact ev_some fun _ => rfl
  | true =>
    refine ev_some_bind rfl (ev_ite_pos rfl ?_)
    cases dr with
    | false => exact ev_ite_neg (by simp) (ev_bind (irow_tells key l hl) (ev_some fun _ => by simp))
    | true =>
      refine ev_ite_pos rfl (ev_some_bind rfl ?_)
      rw [len0]
      cases inB 0 999 key with
      | false => exact ev_some fun _ => rfl
      | true => exact ev_some fun _ => rfl

def valB (v : S76) : ByteArray := if v.f0 = true then ⟨#[45]⟩ else itoaB v.f1
theorem val_size (v : S76) (h : goodVal v = true) : (valB v).size ≤ 100010 := by
  unfold goodVal inB at h
  simp only [Bool.and_eq_true, decide_eq_true_eq] at h
  unfold valB
  split
  · show (1 : Nat) ≤ 100010
    omega
  · exact itoa_size _ (by omega) (by omega)
theorem sval_text (v : S76) (h : goodVal v = true) : Ev (fun k => spec_l10Value.f k v.f0 v.f1) (valB v) := by
  unfold goodVal inB at h
  simp only [Bool.and_eq_true, decide_eq_true_eq] at h
  unfold spec_l10Value.f valB
  by_cases hn : v.f0 = true
  · rw [if_pos hn]
    exact ev_ite_pos hn (ev_some fun _ => rfl)
  · rw [if_neg hn]
    exact ev_ite_neg hn (ev_bind (signed_tells _ (by omega) (by omega)) (ev_some fun _ => rfl))
/-- Texts behind a text, each behind a space. -/
def moreB (s : ByteArray) : List S76 → ByteArray
  | [] => s
  | v :: l => moreB (s ++ ((⟨#[32]⟩ : ByteArray) ++ valB v)) l
theorem more_tl : ∀ (l : List S76) (s : ByteArray), tl (moreB s l) = tl s ++ Lib.joinTail [32] (l.map fun v => tl (valB v))
  | [], s => by simp [moreB, Lib.joinTail]
  | v :: l, s => by
    have e : tl (⟨#[32]⟩ : ByteArray) = [32] := rfl
    rw [moreB, more_tl l, tl_app, tl_app, e]
    simp [Lib.joinTail, List.append_assoc]
theorem more_size : ∀ (l : List S76) (s : ByteArray), (∀ v ∈ l, goodVal v = true) → (moreB s l).size ≤ s.size + 100011 * l.length
  | [], s, _ => by simp [moreB]
  | v :: l, s, h => by
    have ih := more_size l (s ++ ((⟨#[32]⟩ : ByteArray) ++ valB v)) (fun x hx => h x (List.mem_cons_of_mem _ hx))
    have hv := val_size v (h v (List.mem_cons_self ..))
    have e1 : (⟨#[32]⟩ : ByteArray).size = 1 := rfl
    rw [ByteArray.size_append, ByteArray.size_append] at ih
    rw [moreB, List.length_cons]
    omega
theorem rd_val (l : List S76) (i : Nat) (h : i < l.length) : l.drop i = rd_T76 l (i : Int) :: l.drop (i + 1) := by
  rw [List.drop_eq_getElem_cons h]
  congr 1
  show l[i] = l.getD i z76
  rw [List.getD_eq_getElem?_getD, List.getElem?_eq_getElem h]
  rfl
theorem rd_val_mem (l : List S76) (i : Nat) (h : i < l.length) : rd_T76 l (i : Int) ∈ l := by
  show l.getD i z76 ∈ l
  rw [List.getD_eq_getElem?_getD, List.getElem?_eq_getElem h]
  exact List.getElem_mem h
/-- What the reference lays behind a text. -/
theorem stext_end (s : ByteArray) (hs : s.size ≤ 800000) : Ev (fun k => (spec_l10Sum.f k s).bind fun t => (spec_l1Num.f k t).bind fun u => if (s ++ (⟨#[32]⟩ : ByteArray)).size + u.size ≤ 9223372036854775807 then (if ((s ++ (⟨#[32]⟩ : ByteArray)) ++ u).size + 1 ≤ 9223372036854775807 then some (((s ++ (⟨#[32]⟩ : ByteArray)) ++ u) ++ (⟨#[10]⟩ : ByteArray)) else none) else none) (checkedB s ++ ⟨#[10]⟩) := by
  have hc := csum_bd s s.size (by omega)
  have hm : 0 ≤ Int.tmod (csum s s.size) 9973 ∧ Int.tmod (csum s s.size) 9973 < 9973 := ⟨Int.tmod_nonneg _ hc.1, Int.tmod_lt_of_pos _ (by omega)⟩
  have hz := itoa_size (Int.tmod (csum s s.size) 9973) (by omega) (by omega)
  have e1 : (s ++ (⟨#[32]⟩ : ByteArray)).size = s.size + 1 := by rw [ByteArray.size_append]; rfl
  refine ev_bind (ssum_tells s (by omega)) (ev_bind (num_int _ (by omega) (by omega)) (ev_ite_pos (by omega) (ev_ite_pos ?_ (ev_some fun _ => rfl))))
  rw [ByteArray.size_append, e1]
  omega
theorem stext_l (l : List S76) (hl : l.length ≤ 3) (hg : ∀ v ∈ l, goodVal v = true) : ∀ (d i : Nat) (s : ByteArray), i + d = l.length → s.size + 100011 * d ≤ 700000 → Ev (fun k => spec_l10Text.l0 k s l (l.length : Int) (i : Int)) (checkedB (moreB s (l.drop i)) ++ ⟨#[10]⟩)
  | 0, i, s, h, hs => by
    rw [List.drop_of_length_le (by omega), moreB]
    exact ev_step (stext_end s (by omega)) fun k => by rw [spec_l10Text.l0, if_neg (by omega), if_pos (by omega)]
  | d + 1, i, s, h, hs => by
    have hv := hg _ (rd_val_mem l i (by omega))
    have hz := val_size _ hv
    have e1 : (⟨#[32]⟩ : ByteArray).size = 1 := rfl
    have e2 : ((⟨#[32]⟩ : ByteArray) ++ valB (rd_T76 l (i : Int))).size = 1 + (valB (rd_T76 l (i : Int))).size := by rw [ByteArray.size_append, e1]
    have ih := stext_l l hl hg d (i + 1) (s ++ ((⟨#[32]⟩ : ByteArray) ++ valB (rd_T76 l (i : Int)))) (by omega) (by rw [ByteArray.size_append, e2]; omega)
    rw [rd_val l i (by omega), moreB]
    refine Ev.step (f := fun k => (spec_l10Value.f k (rd_T76 l (i : Int)).f0 (rd_T76 l (i : Int)).f1).bind fun t => if 1 + t.size ≤ 9223372036854775807 then (if s.size + ((⟨#[32]⟩ : ByteArray) ++ t).size ≤ 9223372036854775807 then spec_l10Text.l0 k (s ++ ((⟨#[32]⟩ : ByteArray) ++ t)) l (l.length : Int) ((i + 1 : Nat) : Int) else none) else none) (fun k => by rw [spec_l10Text.l0, if_pos (by omega), if_pos (by omega), if_pos (by omega), next i (by omega)]) (ev_bind (sval_text _ hv) (ev_ite_pos (by omega) (ev_ite_pos (by omega) ih)))
def headB (no : Int) (c : UInt8) (key : Int) : ByteArray := itoaB no ++ ((⟨#[32, c, 32]⟩ : ByteArray) ++ itoaB key)
theorem head_size (no : Int) (c : UInt8) (key : Int) (h0 : 0 ≤ no) (h1 : no ≤ 200) (h2 : 0 ≤ key) (h3 : key ≤ 999) : (headB no c key).size ≤ 200030 := by
  have a := itoa_size no (by omega) (by omega)
  have b := itoa_size key (by omega) (by omega)
  have e1 : (⟨#[32, c, 32]⟩ : ByteArray).size = 3 := rfl
  unfold headB
  rw [ByteArray.size_append, ByteArray.size_append]
  omega
/-- The text of a good record. -/
def recB (no : Int) (dr : Bool) (key : Int) (l : List S76) : ByteArray := checkedB (moreB (headB no (if dr = true then 100 else 112) key) l) ++ ⟨#[10]⟩
theorem rec_good {no : Int} {dr : Bool} {key : Int} {l : List S76} (h : recordB no dr key l = true) : 1 ≤ no ∧ no ≤ 200 ∧ 0 ≤ key ∧ key ≤ 999 ∧ l.length ≤ 3 ∧ (∀ v ∈ l, goodVal v = true) ∧ (dr = true → l = []) := by
  unfold recordB inB at h
  cases dr with
  | true =>
    simp only [Bool.and_eq_true, decide_eq_true_eq, if_true] at h
    have : l = [] := List.eq_nil_of_length_eq_zero h.2.2
    subst this
    exact ⟨h.1.1, h.1.2, h.2.1.1, h.2.1.2, by simp, by simp, fun _ => rfl⟩
  | false =>
    simp only [Bool.and_eq_true, decide_eq_true_eq, Bool.false_eq_true, if_false, List.all_eq_true] at h
    exact ⟨h.1.1, h.1.2, h.2.2.1.1, h.2.2.1.2, by omega, h.2.1, by simp⟩
theorem stext_tells {no : Int} {dr : Bool} {key : Int} {l : List S76} (h : recordB no dr key l = true) : Ev (fun k => spec_l10Text.f k no dr key l) (recB no dr key l) := by
  obtain ⟨h0, h1, h2, h3, h4, h5, h6⟩ := rec_good h
  have a := itoa_size no (by omega) (by omega)
  have b := itoa_size key (by omega) (by omega)
  unfold spec_l10Text.f recB
  refine ev_bind (num_int no (by omega) (by omega)) ?_
  cases dr with
  | true =>
    obtain rfl := h6 rfl
    have e1 : (⟨#[32, 100, 32]⟩ : ByteArray).size = 3 := rfl
    have e2 : ((⟨#[32, 100, 32]⟩ : ByteArray) ++ itoaB key).size = 3 + (itoaB key).size := by rw [ByteArray.size_append, e1]
    have e3 : (itoaB no ++ ((⟨#[32, 100, 32]⟩ : ByteArray) ++ itoaB key)).size = (itoaB no).size + (3 + (itoaB key).size) := by rw [ByteArray.size_append, e2]
    exact ev_ite_pos rfl (ev_bind (num_int key (by omega) (by omega)) (ev_ite_pos (by omega) (ev_ite_pos (by omega) (ev_ite_pos (by omega) (stext_end (headB no 100 key) (by have := head_size no 100 key (by omega) h1 h2 h3; omega))))))
  | false =>
    have e1 : (⟨#[32, 112, 32]⟩ : ByteArray).size = 3 := rfl
    have e2 : ((⟨#[32, 112, 32]⟩ : ByteArray) ++ itoaB key).size = 3 + (itoaB key).size := by rw [ByteArray.size_append, e1]
    have hT := stext_l l h4 h5 l.length 0 (headB no 112 key) (by omega) (by have := head_size no 112 key (by omega) h1 h2 h3; omega)
    rw [List.drop_zero] at hT
    exact ev_ite_neg (by simp) (ev_bind (num_int key (by omega) (by omega)) (ev_ite_pos (by omega) (ev_ite_pos (by omega) hT)))
/-- Words joined are the reference's text. -/
theorem join_more (no key : Int) (c : UInt8) (l : List S76) : joinB ([itoaB no, ⟨#[c]⟩, itoaB key] ++ l.map valB) = moreB (headB no c key) l := by
  refine tl_inj ?_
  rw [more_tl]
  unfold headB
  rw [tl_app, tl_app]
  show (Lib.join (([itoaB no, ⟨#[c]⟩, itoaB key] ++ l.map valB).map fun x => x.data.toList) [32]).toArray.toList = _
  rw [List.toList_toArray, List.cons_append, List.map_cons, Lib.join_cons]
  simp [Lib.joinTail, tl, List.append_assoc, Function.comp_def]
theorem itext_l (l : List S76) (hg : ∀ v ∈ l, goodVal v = true) (hl : l.length ≤ 3) (T : ByteArray) (hT : T.size ≤ 800000) : ∀ (d i : Nat) (ws : List ByteArray), i + d = l.length → ws.length ≤ 3 + i → joinB (ws ++ (l.drop i).map valB) = T → Ev (fun k => impl_recordText.l0 k ws l (l.length : Int) (i : Int)) (checkedB T ++ ⟨#[10]⟩)
  | 0, i, ws, h, hw, hj => by
    rw [List.drop_of_length_le (by omega), List.map_nil, List.append_nil] at hj
    have hJ : strings_Join.f ws (⟨#[32]⟩ : ByteArray) = some T := by
      unfold strings_Join.f
      have e : (⟨(Lib.join (ws.map (·.data.toList)) (⟨#[32]⟩ : ByteArray).data.toList).toArray⟩ : ByteArray) = T := hj
      have e2 : (Lib.join (ws.map (·.data.toList)) (⟨#[32]⟩ : ByteArray).data.toList).length = T.size := by
        rw [← e]
        show _ = (Lib.join (ws.map (·.data.toList)) (⟨#[32]⟩ : ByteArray).data.toList).toArray.size
        rw [List.size_toArray]
      rw [if_pos ⟨by omega, by omega⟩, e]
    have hs := checked_size T (by omega)
    exact ev_step (ev_some_bind hJ (ev_bind (checked_tells T (by omega)) (ev_ite_pos (show (checkedB T).size + 1 ≤ 9223372036854775807 by omega) (ev_some fun _ => rfl)))) fun k => by rw [impl_recordText.l0, if_neg (by omega)]
  | d + 1, i, ws, h, hw, hj => by
    have hv := hg _ (rd_val_mem l i (by omega))
    rw [rd_val l i (by omega), List.map_cons] at hj
    have ih := itext_l l hg hl T hT d (i + 1) (ws ++ [valB (rd_T76 l (i : Int))]) (by omega) (by simp; omega) (by rw [List.append_assoc, List.singleton_append]; exact hj)
    unfold goodVal inB at hv
    simp only [Bool.and_eq_true, decide_eq_true_eq] at hv
    by_cases hn : (rd_T76 l (i : Int)).f0 = true
    · have e : valB (rd_T76 l (i : Int)) = ⟨#[45]⟩ := by unfold valB; rw [if_pos hn]
      rw [e] at ih
      exact ev_step ih fun k => by rw [impl_recordText.l0, if_pos (by omega), if_pos (by omega), if_pos (by omega), if_pos hn, if_pos (by omega), next i (by omega)]
    · have e : valB (rd_T76 l (i : Int)) = itoaB (rd_T76 l (i : Int)).f1 := by unfold valB; rw [if_neg hn]
      rw [e] at ih
      exact ev_step ih fun k => by rw [impl_recordText.l0, if_pos (by omega), if_pos (by omega), if_pos (by omega), if_neg hn, itoa_f _ (by omega) (by omega), Option.bind_some, if_pos (by omega), next i (by omega)]
theorem itext_tells {no : Int} {dr : Bool} {key : Int} {l : List S76} (h : recordB no dr key l = true) : Ev (fun k => impl_recordText.f k no dr key l) (recB no dr key l) := by
  obtain ⟨h0, h1, h2, h3, h4, h5, h6⟩ := rec_good h
  have hsz : ∀ c : UInt8, (moreB (headB no c key) l).size ≤ 800000 := fun c => by
    have a := more_size l (headB no c key) h5
    have b := head_size no c key (by omega) h1 h2 h3
    omega
  have fin : ∀ (c : UInt8) (ws : List ByteArray), ws = [itoaB no, ⟨#[c]⟩, itoaB key] → Ev (fun k => impl_recordText.j0 k ws no dr key l) (checkedB (moreB (headB no c key) l) ++ ⟨#[10]⟩) := fun c ws hw => by
    subst hw
    have hI := itext_l l h5 h4 (moreB (headB no c key) l) (hsz c) l.length 0 [itoaB no, ⟨#[c]⟩, itoaB key] (by omega) (by simp) (by rw [List.drop_zero]; exact join_more no key c l)
    exact ev_step hI fun k => by rw [impl_recordText.j0]; rfl
  unfold impl_recordText.f recB
  refine ev_some_bind (itoa_f no (by omega) (by omega)) (ev_some_bind (itoa_f key (by omega) (by omega)) (ev_some_bind rfl ?_))
  cases dr with
  | true => exact ev_ite_pos rfl (ev_ite_pos (by simp) (fin 100 _ rfl))
  | false => exact ev_ite_neg (by simp) (fin 112 _ rfl)
theorem rec_size {no : Int} {dr : Bool} {key : Int} {l : List S76} (h : recordB no dr key l = true) : (recB no dr key l).size ≤ 1000000 := by
  obtain ⟨h0, h1, h2, h3, h4, h5, h6⟩ := rec_good h
  unfold recB
  have a := more_size l (headB no (if dr = true then 100 else 112) key) h5
  have b := head_size no (if dr = true then 100 else 112) key (by omega) h1 h2 h3
  have c := checked_size (moreB (headB no (if dr = true then 100 else 112) key) l) (by omega)
  have e1 : (⟨#[10]⟩ : ByteArray).size = 1 := rfl
  rw [ByteArray.size_append]
  omega

/-- What holds from some number of rounds on. -/
def Evs (P : Nat → Prop) : Prop := ∃ K, ∀ k, K ≤ k → P k
theorem Evs.and {P Q : Nat → Prop} (h : Evs P) (h2 : Evs Q) : Evs (fun k => P k ∧ Q k) := by
  obtain ⟨K, hK⟩ := h
  obtain ⟨L, hL⟩ := h2
  exact ⟨max K L, fun k hk => ⟨hK k (by omega), hL k (by omega)⟩⟩
theorem Evs.of {P : Prop} (h : P) : Evs (fun _ => P) := ⟨0, fun _ _ => h⟩
theorem Evs.ev {α : Type} {g : Nat → Option α} {r : α} (h : Ev g r) : Evs (fun k => g k = some r) := h
theorem Evs.now {P : Nat → Prop} (h : Evs P) : ∃ k, P k := by
  obtain ⟨K, hK⟩ := h
  exact ⟨K, hK K (Nat.le_refl _)⟩
theorem Evs.mono {P Q : Nat → Prop} (h : Evs P) (hq : ∀ k, P k → Q k) : Evs Q := by
  obtain ⟨K, hK⟩ := h
  exact ⟨K, fun k hk => hq k (hK k hk)⟩

abbrev recG (r : S34) : Bool := recordB r.f0 r.f1 r.f2.f0 r.f2.f1
abbrev recT (r : S34) : ByteArray := recB r.f0 r.f1 r.f2.f0 r.f2.f1
theorem rd_rec (l : List S34) (i : Nat) (h : i < l.length) : l.drop i = rd_T34 l (i : Int) :: l.drop (i + 1) := by
  rw [List.drop_eq_getElem_cons h]
  congr 1
  show l[i] = l.getD i z34
  rw [List.getD_eq_getElem?_getD, List.getElem?_eq_getElem h]
  rfl
theorem rd_rec_mem (l : List S34) (i : Nat) (h : i < l.length) : rd_T34 l (i : Int) ∈ l := by
  show l.getD i z34 ∈ l
  rw [List.getD_eq_getElem?_getD, List.getElem?_eq_getElem h]
  exact List.getElem_mem h
theorem eqrecs_l (l : List S34) (hl : l.length ≤ 1048576) (hr : ∀ r ∈ l, r.f2.f1.length ≤ 1048576) : ∀ (d i : Nat), i + d = l.length → Ev (fun k => laws_eqRecordS.l0 k l l (i : Int)) true
  | 0, i, h => ev_stop fun k => by rw [laws_eqRecordS.l0, if_neg (by omega)]
  | d + 1, i, h => by
    have hw := hr _ (rd_rec_mem l i (by omega))
    have ih := eqrecs_l l hl hr d (i + 1) (by omega)
    have eR : Ev (fun k => laws_eqRecord.f k (rd_T34 l (i : Int)).f0 (rd_T34 l (i : Int)).f1 (rd_T34 l (i : Int)).f2.f0 (rd_T34 l (i : Int)).f2.f1 (rd_T34 l (i : Int)).f0 (rd_T34 l (i : Int)).f1 (rd_T34 l (i : Int)).f2.f0 (rd_T34 l (i : Int)).f2.f1) true := by
      unfold laws_eqRecord.f laws_eqRow.f
      refine ev_ite_pos rfl (ev_ite_neg (by simp) (ev_bind (a := true) ?_ (ev_some fun _ => rfl)))
      exact ev_ite_pos rfl (ev_bind (eqValue_tells _ (by omega)) (ev_some fun _ => rfl))
    refine Ev.step (f := fun k => (laws_eqRecord.f k (rd_T34 l (i : Int)).f0 (rd_T34 l (i : Int)).f1 (rd_T34 l (i : Int)).f2.f0 (rd_T34 l (i : Int)).f2.f1 (rd_T34 l (i : Int)).f0 (rd_T34 l (i : Int)).f1 (rd_T34 l (i : Int)).f2.f0 (rd_T34 l (i : Int)).f2.f1).bind fun t => if t = true then laws_eqRecordS.l0 k l l ((i + 1 : Nat) : Int) else some false) (fun k => by rw [laws_eqRecordS.l0, if_pos (by omega), if_pos (by omega), if_pos (by omega), next i (by omega)]) (ev_bind eR (ev_ite_pos rfl ih))

def upVals (m : Int) : Nat → List S76
  | 0 => []
  | n + 1 => ⟨Int.tmod m 3 == 0, m + 1⟩ :: upVals (m + 2) n
theorem upVals_len (m : Int) : ∀ n, (upVals m n).length = n
  | 0 => rfl
  | n + 1 => by rw [upVals, List.length_cons, upVals_len (m + 2) n]
theorem rdV_set (l : List S76) (i : Nat) (v : S76) (h : i < l.length) : rd_T76 (l.set i v) i = v := by
  simp [rd_T76, List.getD, h]
theorem take_set_val (l : List S76) (i : Nat) (m : S76) (h : i < l.length) : (l.set i m).take (i + 1) = l.take i ++ [m] := by
  rw [List.take_succ_eq_append_getElem (by simpa using h), List.take_set_of_le (Nat.le_refl i)]
  simp
theorem markVal_l : ∀ (d i : Nat) (l : List S76) (m : Int), i + d = l.length → l.length ≤ 4611686018427387903 → 0 ≤ m → m + 2 * d ≤ 4611686018427387903 → Ev (fun k => laws_markValueS.l0 k l m (i : Int)) (m + 2 * d, l.take i ++ upVals m d)
  | 0, i, l, m, h, _, _, _ => ev_stop fun k => by
    rw [laws_markValueS.l0, if_neg (by omega), List.take_of_length_le (by omega)]
    simp [upVals]
  | d + 1, i, l, m, h, hl, hm, hb => by
    have ih := markVal_l d (i + 1) (l.set i ⟨Int.tmod m 3 == 0, m + 1⟩) (m + 2) (by rw [List.length_set]; omega) (by rw [List.length_set]; omega) (by omega) (by omega)
    rw [take_set_val l i _ (by omega), List.append_assoc] at ih
    have e : m + 2 + 2 * (d : Int) = m + 2 * ((d + 1 : Nat) : Int) := by omega
    rw [e] at ih
    exact ev_step ih fun k => by
      rw [laws_markValueS.l0, if_pos (by omega), if_pos (by omega)]
      simp only [Option.bind_some, Int.toNat_natCast]
      rw [rdV_set _ _ _ (by omega)]
      simp only [List.set_set]
      rw [w64 (i := m + 1) (by omega) (by omega), w64 (i := m + 1 + 1) (by omega) (by omega), next i (by omega), show m + 1 + 1 = m + 2 by omega]
theorem markVal_tells (l : List S76) (m : Int) (hm : 0 ≤ m) (hb : m ≤ 1000000000000) (hl : l.length ≤ 1048576) : Ev (fun k => laws_markValueS.f k l m) (m + 2 * l.length, upVals m l.length) := by
  have h := markVal_l l.length 0 l m (by omega) (by omega) (by omega) (by omega)
  rw [List.take_zero, List.nil_append] at h
  exact h
theorem heldVal_l (l : List S76) (hl : l.length ≤ 4611686018427387903) : ∀ (d i : Nat) (m : Int), i + d = l.length → l.drop i = upVals m d → 0 ≤ m → m + 2 * d ≤ 4611686018427387903 → Ev (fun k => laws_heldValueS.l0 k l m (i : Int)) (m + 2 * d)
  | 0, i, m, h, _, _, _ => ev_stop fun k => by
    rw [laws_heldValueS.l0, if_neg (by omega)]
    simp
  | d + 1, i, m, h, he, hm, hb => by
    rw [drop_val l i (by omega), upVals] at he
    injection he with e1 e2
    have ih := heldVal_l l hl d (i + 1) (m + 2) (by omega) e2 (by omega) (by omega)
    have e : m + 2 + 2 * (d : Int) = m + 2 * ((d + 1 : Nat) : Int) := by omega
    rw [e] at ih
    exact ev_step ih fun k => by
      rw [laws_heldValueS.l0, if_pos (by omega), if_pos (by omega), e1, if_neg (by simp), w64 (i := m + 1) (by omega) (by omega), if_pos rfl, w64 (i := m + 1 + 1) (by omega) (by omega), next i (by omega), show m + 1 + 1 = m + 2 by omega]
theorem heldVal_tells (m : Int) (n : Nat) (hm : 0 ≤ m) (hb : m ≤ 1000000000000) (hn : n ≤ 1048576) : Ev (fun k => laws_heldValueS.f k (upVals m n) m) (m + 2 * n) := by
  have h := heldVal_l (upVals m n) (by rw [upVals_len]; omega) n 0 m (by rw [upVals_len]; omega) (by simp) hm (by omega)
  exact h

theorem eqrecs_tells (l : List S34) (hl : l.length ≤ 1048576) (hr : ∀ r ∈ l, r.f2.f1.length ≤ 1048576) : Ev (fun k => laws_eqRecordS.f k l l) true := by
  unfold laws_eqRecordS.f
  exact ev_ite_pos rfl (eqrecs_l l hl hr l.length 0 (by omega))
/-- How far records move a mark. -/
def recsum : List S34 → Nat
  | [] => 0
  | x :: r => 3 + 2 * x.f2.f1.length + recsum r
theorem recsum_le : ∀ l : List S34, (∀ r ∈ l, r.f2.f1.length ≤ 1048576) → recsum l ≤ 2097155 * l.length
  | [], _ => by simp [recsum]
  | x :: l, h => by
    have ih := recsum_le l (fun r hr => h r (List.mem_cons_of_mem _ hr))
    have hx := h x (List.mem_cons_self ..)
    rw [recsum, List.length_cons]
    omega
/-- What marking leaves of records. -/
def upRecs : Int → List S34 → List S34
  | _, [] => []
  | m, x :: r => ⟨m, Int.tmod (m + 1) 3 == 0, ⟨m + 2, upVals (m + 3) x.f2.f1.length⟩⟩ :: upRecs (m + 3 + 2 * x.f2.f1.length) r
theorem upRecs_len : ∀ (l : List S34) (m : Int), (upRecs m l).length = l.length
  | [], _ => rfl
  | x :: l, m => by rw [upRecs, List.length_cons, List.length_cons, upRecs_len l]
theorem take_set_rec (l : List S34) (i : Nat) (m : S34) (h : i < l.length) : (l.set i m).take (i + 1) = l.take i ++ [m] := by
  rw [List.take_succ_eq_append_getElem (by simpa using h), List.take_set_of_le (Nat.le_refl i)]
  simp
theorem drop_set_rec (l : List S34) (i : Nat) (m : S34) : (l.set i m).drop (i + 1) = l.drop (i + 1) := List.drop_set_of_lt (by omega)
theorem markRec_l : ∀ (d i : Nat) (l : List S34) (m : Int), i + d = l.length → l.length ≤ 1048576 → (∀ x ∈ l.drop i, x.f2.f1.length ≤ 1048576) → 0 ≤ m → m + recsum (l.drop i) ≤ 1000000000 → Ev (fun k => laws_markRecordS.l0 k l m (i : Int)) (m + recsum (l.drop i), l.take i ++ upRecs m (l.drop i))
  | 0, i, l, m, h, _, _, _, _ => ev_stop fun k => by
    rw [laws_markRecordS.l0, if_neg (by omega), List.take_of_length_le (by omega), List.drop_of_length_le (by omega)]
    simp [upRecs, recsum]
  | d + 1, i, l, m, h, hl, hr, hm, hb => by
    have hd : l.drop i = l.getD i z34 :: l.drop (i + 1) := rd_rec l i (by omega)
    rw [hd] at hr hb ⊢
    have q := hr _ (List.mem_cons_self ..)
    generalize hx : l.getD i z34 = x at hr hb q hd ⊢
    rw [recsum] at hb
    have e1 := markVal_tells x.f2.f1 (m + 3) (by omega) (by omega) q
    have ih := markRec_l d (i + 1) (l.set i (⟨m, Int.tmod (m + 1) 3 == 0, ⟨m + 2, upVals (m + 3) x.f2.f1.length⟩⟩ : S34)) (m + 3 + 2 * x.f2.f1.length) (by rw [List.length_set]; omega) (by rw [List.length_set]; omega) (by rw [drop_set_rec]; exact fun y hy => hr y (List.mem_cons_of_mem _ hy)) (by omega) (by rw [drop_set_rec]; omega)
    rw [drop_set_rec, take_set_rec l i _ (by omega), List.append_assoc] at ih
    rw [recsum, upRecs]
    have e : m + 3 + 2 * (x.f2.f1.length : Int) + (recsum (l.drop (i + 1)) : Int) = m + ((3 + 2 * x.f2.f1.length + recsum (l.drop (i + 1)) : Nat) : Int) := by omega
    rw [e] at ih
    refine Ev.step (f := fun k => (laws_markValueS.f k x.f2.f1 (m + 3)).bind fun b2 => laws_markRecordS.l0 k (l.set i (⟨m, Int.tmod (m + 1) 3 == 0, ⟨m + 2, b2.2⟩⟩ : S34)) b2.1 ((i + 1 : Nat) : Int)) (fun k => ?_) (ev_bind e1 ih)
    rw [laws_markRecordS.l0, if_pos (by omega), if_pos (by omega), Int.toNat_natCast, hx, w64 (i := m + 1) (by omega) (by omega), w64 (i := m + 1 + 1) (by omega) (by omega), w64 (i := m + 1 + 1 + 1) (by omega) (by omega), next i (by omega), show m + 1 + 1 + 1 = m + 3 by omega, show m + 1 + 1 = m + 2 by omega]
theorem markRec_tells (l : List S34) (m : Int) (hl : l.length ≤ 1048576) (hr : ∀ x ∈ l, x.f2.f1.length ≤ 1048576) (hm : 0 ≤ m) (hb : m + recsum l ≤ 1000000000) : Ev (fun k => laws_markRecordS.f k l m) (m + recsum l, upRecs m l) := by
  have h := markRec_l l.length 0 l m (by omega) hl (by rw [List.drop_zero]; exact hr) hm (by rw [List.drop_zero]; exact hb)
  rw [List.take_zero, List.nil_append, List.drop_zero] at h
  exact h
theorem heldRec_l (l : List S34) (hl : l.length ≤ 1048576) : ∀ (src : List S34) (i : Nat) (m : Int), i + src.length = l.length → l.drop i = upRecs m src → (∀ x ∈ src, x.f2.f1.length ≤ 1048576) → 0 ≤ m → m + recsum src ≤ 1000000000 → Ev (fun k => laws_heldRecordS.l0 k l m (i : Int)) (m + recsum src)
  | [], i, m, h, _, _, _, _ => ev_stop fun k => by
    rw [List.length_nil] at h
    rw [laws_heldRecordS.l0, if_neg (by omega)]
    simp [recsum]
  | x :: src, i, m, h, he, hr, hm, hb => by
    rw [List.length_cons] at h
    rw [rd_rec l i (by omega), upRecs] at he
    injection he with e1 e2
    rw [recsum] at hb
    have q := hr x (List.mem_cons_self ..)
    have ih := heldRec_l l hl src (i + 1) (m + 3 + 2 * x.f2.f1.length) (by omega) e2 (fun y hy => hr y (List.mem_cons_of_mem _ hy)) (by omega) (by omega)
    have hv := heldVal_tells (m + 3) x.f2.f1.length (by omega) (by omega) q
    have e : m + 3 + 2 * (x.f2.f1.length : Int) + (recsum src : Int) = m + ((recsum (x :: src) : Nat) : Int) := by rw [recsum]; omega
    rw [e] at ih
    refine Ev.step (f := fun k => (laws_heldValueS.f k (upVals (m + 3) x.f2.f1.length) (m + 3)).bind fun t => if t < 0 then some (-1) else laws_heldRecordS.l0 k l t ((i + 1 : Nat) : Int)) (fun k => ?_) (ev_bind hv (ev_ite_neg (by omega) ih))
    rw [laws_heldRecordS.l0, if_pos (by omega), if_pos (by omega), e1, w64 (i := m + 1) (by omega) (by omega), w64 (i := m + 1 + 1) (by omega) (by omega), w64 (i := m + 1 + 1 + 1) (by omega) (by omega), next i (by omega), show m + 1 + 1 + 1 = m + 3 by omega, show m + 1 + 1 = m + 2 by omega, if_pos rfl, if_neg (by simp), if_pos rfl]
theorem heldRec_tells (l : List S34) (m : Int) (hl : l.length ≤ 1048576) (hr : ∀ x ∈ l, x.f2.f1.length ≤ 1048576) (hm : 0 ≤ m) (hb : m + recsum l ≤ 1000000000) : Ev (fun k => laws_heldRecordS.f k (upRecs m l) m) (m + recsum l) :=
  heldRec_l (upRecs m l) (by rw [upRecs_len]; exact hl) l 0 m (by rw [upRecs_len]; omega) (by rw [List.drop_zero]) hr hm hb

theorem digit_one (d : Nat) (h : d < 10) : Lib.digitVal (UInt8.ofNat (48 + d)) = some d := by
  have hd : d = 0 ∨ d = 1 ∨ d = 2 ∨ d = 3 ∨ d = 4 ∨ d = 5 ∨ d = 6 ∨ d = 7 ∨ d = 8 ∨ d = 9 := by omega
  rcases hd with h | h | h | h | h | h | h | h | h | h <;> subst h <;> rfl
theorem decFrom_app : ∀ (a b : List UInt8) (acc : Nat), Lib.decFrom acc (a ++ b) = (Lib.decFrom acc a).bind fun n => Lib.decFrom n b
  | [], _, _ => rfl
  | c :: a, b, acc => by
    simp only [List.cons_append, Lib.decFrom]
    cases Lib.digitVal c with
    | none => rfl
    | some d => exact decFrom_app a b _
theorem dec_digits : ∀ u : Nat, Lib.decFrom 0 (Lib.decDigits u) = some u := fun u => by
  induction u using Nat.strongRecOn with
  | ind u ih =>
    rw [Lib.decDigits]
    split
    · next h =>
      simp only [Lib.decFrom, digit_one u h]
      simp
    · rw [decFrom_app, ih (u / 10) (by omega)]
      simp only [Option.bind_some, Lib.decFrom, digit_one (u % 10) (by omega)]
      congr 1
      omega
theorem dec_pos : ∀ u : Nat, 1 ≤ (Lib.decDigits u).length := fun u => by
  rw [Lib.decDigits]
  split
  · simp
  · simp
theorem dec_len4 (u : Nat) (h : u ≤ 9999) : (Lib.decDigits u).length ≤ 4 := by
  have one : ∀ v, v < 10 → (Lib.decDigits v).length = 1 := fun v hv => by rw [Lib.decDigits, dif_pos hv]; rfl
  have more : ∀ v, ¬ v < 10 → (Lib.decDigits v).length = (Lib.decDigits (v / 10)).length + 1 := fun v hv => by
    conv => lhs; rw [Lib.decDigits, dif_neg hv]
    simp
  by_cases h1 : u < 10
  · rw [one u h1]; omega
  · rw [more u h1]
    by_cases h2 : u / 10 < 10
    · rw [one _ h2]; omega
    · rw [more _ h2]
      by_cases h3 : u / 10 / 10 < 10
      · rw [one _ h3]; omega
      · rw [more _ h3, one (u / 10 / 10 / 10) (by omega)]; omega
theorem dec_byte (u : Nat) (c : UInt8) (h : c ∈ Lib.decDigits u) : 48 ≤ c.toNat ∧ c.toNat ≤ 57 := by
  obtain ⟨j, hj, rfl⟩ := List.mem_iff_getElem.1 h
  obtain ⟨d, hd⟩ := Lib.digit_of_decFrom _ 0 u (dec_digits u) j _ (List.getElem?_eq_getElem hj)
  unfold Lib.digitVal at hd
  split at hd
  · assumption
  · cases hd
/-- A byte of a text, by what the text holds from there on. -/
theorem bt_cons (s : ByteArray) (i : Nat) (c : UInt8) (r : List UInt8) (h : (tl s).drop i = c :: r) : bt s (i : Int) = (c.toNat : Int) ∧ i < s.size ∧ (tl s).drop (i + 1) = r := by
  have hi : i < (tl s).length := by
    rcases Nat.lt_or_ge i (tl s).length with h' | h'
    · exact h'
    · rw [List.drop_of_length_le h'] at h; cases h
  rw [List.drop_eq_getElem_cons hi] at h
  injection h with h1 h2
  have hs : i < s.size := by rw [tl_size]; exact hi
  refine ⟨?_, hs, h2⟩
  rw [← bt_at s (i : Int) (by simpa using hs), ← h1]
  rfl
theorem decFrom_ge : ∀ (l : List UInt8) (acc u : Nat), Lib.decFrom acc l = some u → acc ≤ u
  | [], acc, u, h => by
    simp only [Lib.decFrom, Option.some.injEq] at h
    omega
  | c :: r, acc, u, h => by
    simp only [Lib.decFrom] at h
    cases hc : Lib.digitVal c with
    | none => rw [hc] at h; cases h
    | some d =>
      rw [hc] at h
      have := decFrom_ge r _ u h
      omega
theorem sint_l (s : ByteArray) (hs : s.size ≤ 1000000) : ∀ (r : List UInt8) (i acc u : Nat), (tl s).drop i = r → i + r.length = s.size → Lib.decFrom acc r = some u → u ≤ 100000 → Ev (fun k => spec_l10Int.l0 k s (acc : Int) (i : Int)) (u : Int)
  | [], i, acc, u, _, hl, hd, _ => by
    simp only [Lib.decFrom, Option.some.injEq] at hd
    subst hd
    rw [List.length_nil] at hl
    exact ev_stop fun k => by rw [spec_l10Int.l0, if_neg (by omega)]
  | c :: r, i, acc, u, h, hl, hd, hu => by
    obtain ⟨hb, hi, hr⟩ := bt_cons s i c r h
    rw [List.length_cons] at hl
    simp only [Lib.decFrom] at hd
    cases hc : Lib.digitVal c with
    | none => rw [hc] at hd; cases hd
    | some d =>
      rw [hc] at hd
      have hge := decFrom_ge r _ u hd
      have hcd : 48 ≤ c.toNat ∧ c.toNat ≤ 57 ∧ d = c.toNat - 48 := by
        unfold Lib.digitVal at hc
        split at hc
        · next hh => exact ⟨hh.1, hh.2, by simpa using hc.symm⟩
        · cases hc
      have ih := sint_l s hs r (i + 1) (acc * 10 + d) u hr (by omega) hd hu
      exact ev_step ih fun k => by
        rw [spec_l10Int.l0, if_pos (by omega), if_pos (by omega), hb, if_neg (by omega), if_neg (by omega), w64 (i := 10 * (acc : Int)) (by omega) (by omega), w64 (by omega) (by omega), next i (by omega), show 10 * (acc : Int) + ((c.toNat : Int) - 48) % 256 = ((acc * 10 + d : Nat) : Int) by omega]
theorem sint_any (s : ByteArray) (hs : s.size ≤ 1000000) : ∀ (d i : Nat) (x : Int), i + d = s.size → ∃ v, Ev (fun k => spec_l10Int.l0 k s x (i : Int)) v
  | 0, i, x, h => ⟨x, ev_stop fun k => by rw [spec_l10Int.l0, if_neg (by omega)]⟩
  | d + 1, i, x, h => by
    by_cases h1 : bt s (i : Int) < 48
    · exact ⟨-1, ev_stop fun k => by rw [spec_l10Int.l0, if_pos (by omega), if_pos (by omega), if_pos h1]⟩
    · by_cases h2 : bt s (i : Int) > 57
      · exact ⟨-1, ev_stop fun k => by rw [spec_l10Int.l0, if_pos (by omega), if_pos (by omega), if_neg h1, if_pos h2]⟩
      · obtain ⟨v, hv⟩ := sint_any s hs d (i + 1) (wrap64 ((wrap64 (10 * x)) + ((bt s (i : Int)) - 48) % 256)) (by omega)
        exact ⟨v, ev_step hv fun k => by rw [spec_l10Int.l0, if_pos (by omega), if_pos (by omega), if_neg h1, if_neg h2, next i (by omega)]⟩
theorem sint_ex (s : ByteArray) (hs : s.size ≤ 1000000) : ∃ v, Ev (fun k => spec_l10Int.f k s) v := by
  have e : spec_l1In.f (s.size : Int) 1 4 = some (inB 1 4 (s.size : Int)) := sin_tells _ 1 4
  unfold spec_l10Int.f
  cases hq : inB 1 4 (s.size : Int) with
  | false => exact ⟨-1, ev_some_bind (by rw [e, hq]) (ev_ite_neg (by simp) (ev_some fun _ => rfl))⟩
  | true =>
    obtain ⟨v, hv⟩ := sint_any s hs s.size 0 0 (by omega)
    exact ⟨v, ev_some_bind (by rw [e, hq]) (ev_ite_pos rfl hv)⟩
theorem sint_num (u : Nat) (hu : u ≤ 9999) (s : ByteArray) (hs : tl s = Lib.decDigits u) : Ev (fun k => spec_l10Int.f k s) (u : Int) := by
  have e : spec_l1In.f (s.size : Int) 1 4 = some (inB 1 4 (s.size : Int)) := sin_tells _ 1 4
  have h1 := dec_pos u
  have h4 := dec_len4 u hu
  rw [← hs, ← tl_size] at h1 h4
  have hq : inB 1 4 (s.size : Int) = true := by
    unfold inB
    simp only [Bool.and_eq_true, decide_eq_true_eq]
    omega
  unfold spec_l10Int.f
  have hz := sint_l s (by omega) (tl s) 0 0 u (by simp) (by rw [tl_size]; omega) (by rw [hs]; exact dec_digits u) (by omega)
  exact ev_some_bind (by rw [e, hq]) (ev_ite_pos rfl hz)
theorem tl_itoa (n : Int) : tl (itoaB n) = Lib.itoa n := by
  show (Lib.itoa n).toArray.toList = _
  rw [List.toList_toArray]
theorem sint_itoa (n : Int) (h0 : 0 ≤ n) (h1 : n ≤ 9999) : Ev (fun k => spec_l10Int.f k (itoaB n)) n := by
  obtain ⟨u, rfl⟩ := Int.eq_ofNat_of_zero_le h0
  refine sint_num u (by omega) _ ?_
  rw [tl_itoa]
  exact Lib.itoa_nonneg u

theorem str_list (s : ByteArray) : s.toList = tl s := ByteArray.toList_eq s
theorem tl_extract (s : ByteArray) (a b : Nat) : tl (s.extract a b) = ((tl s).take b).drop a := by
  show (s.extract a b).data.toList = _
  rw [ByteArray.data_extract, Array.toList_extract]
  simp [List.extract, List.drop_take]
theorem tl_from (s : ByteArray) (a : Nat) : tl (s.extract a s.size) = (tl s).drop a := by
  rw [tl_extract, List.take_of_length_le (by rw [tl_size]; exact Nat.le_refl _)]
/-- A text cut at each of a byte. -/
def splA (b : UInt8) : List UInt8 → List UInt8 → List (List UInt8)
  | acc, [] => [acc]
  | acc, c :: r => if c = b then acc :: splA b [] r else splA b (acc ++ [c]) r
theorem ssplit_l (s : ByteArray) (hs : s.size ≤ 1000000) : ∀ (d i f : Nat) (acc : List ByteArray), i + d = s.size → f ≤ i → acc.length ≤ i → ∃ X : List ByteArray, Ev (fun k => spec_l10Split.l0 k s 32 acc (f : Int) (i : Int)) (acc ++ X) ∧ X.map tl = splA 32 (((tl s).take i).drop f) ((tl s).drop i)
  | 0, i, f, acc, h, hf, ha => by
    refine ⟨[s.extract f s.size], ev_stop fun k => ?_, ?_⟩
    · rw [spec_l10Split.l0, if_neg (by omega), if_pos (by omega), if_pos (by omega), if_pos (by omega), Int.toNat_natCast]
    · have e : (tl s).drop i = [] := List.drop_of_length_le (by rw [← tl_size]; omega)
      rw [e, splA, List.map_cons, tl_extract, List.map_nil, show i = s.size by omega]
  | d + 1, i, f, acc, h, hf, ha => by
    have hi : i < (tl s).length := by rw [← tl_size]; omega
    have hd := List.drop_eq_getElem_cons hi
    obtain ⟨hb, _, _⟩ := bt_cons s i _ _ hd
    generalize hc : (tl s)[i] = c at hd hb
    rw [hd, splA]
    by_cases he : c = 32
    · obtain ⟨X, hX, hm⟩ := ssplit_l s hs d (i + 1) (i + 1) (acc ++ [s.extract f i]) (by omega) (by omega) (by simp; omega)
      refine ⟨s.extract f i :: X, ?_, ?_⟩
      · rw [List.append_assoc, List.singleton_append] at hX
        refine ev_step hX fun k => ?_
        rw [spec_l10Split.l0, if_pos (by omega), if_pos (by omega), hb, if_pos (by rw [he]; rfl), if_pos (by omega), if_pos (by omega), if_pos (by omega), if_pos (by omega), next i (by omega), Int.toNat_natCast, Int.toNat_natCast]
      · rw [if_pos he, List.map_cons, tl_extract, hm, List.drop_of_length_le (l := (tl s).take (i + 1)) (by rw [List.length_take]; omega)]
    · obtain ⟨X, hX, hm⟩ := ssplit_l s hs d (i + 1) f acc (by omega) (by omega) (by omega)
      refine ⟨X, ev_step hX fun k => ?_, ?_⟩
      · rw [spec_l10Split.l0, if_pos (by omega), if_pos (by omega), hb, if_neg (by intro e; exact he (UInt8.toNat_inj.1 (by show c.toNat = 32; omega))), next i (by omega)]
      · rw [if_neg he, hm, List.take_succ_eq_append_getElem hi, List.drop_append_of_le_length (by rw [List.length_take]; omega), hc]
theorem ssplit (s : ByteArray) (hs : s.size ≤ 1000000) : ∃ X : List ByteArray, Ev (fun k => spec_l10Split.f k s 32) X ∧ X.map tl = splA 32 [] (tl s) := by
  obtain ⟨X, hX, hm⟩ := ssplit_l s hs s.size 0 0 [] (by omega) (by omega) (by simp)
  exact ⟨X, hX, by simpa using hm⟩
theorem splA_word (b : UInt8) : ∀ (w acc r : List UInt8), (∀ c ∈ w, c ≠ b) → splA b acc (w ++ r) = splA b (acc ++ w) r
  | [], acc, r, _ => by simp
  | c :: w, acc, r, h => by
    rw [List.cons_append, splA, if_neg (h c (List.mem_cons_self ..)), splA_word b w _ r (fun x hx => h x (List.mem_cons_of_mem _ hx))]
    simp
theorem tail_cons (b : UInt8) (x : List UInt8) (ws : List (List UInt8)) : Lib.joinTail [b] (x :: ws) = b :: (x ++ Lib.joinTail [b] ws) := by simp [Lib.joinTail]
theorem splA_join (b : UInt8) : ∀ (ws : List (List UInt8)) (w : List UInt8), (∀ c ∈ w, c ≠ b) → (∀ x ∈ ws, ∀ c ∈ x, c ≠ b) → splA b [] (w ++ Lib.joinTail [b] ws) = w :: ws
  | [], w, h, _ => by
    rw [splA_word b w _ _ h]
    simp [Lib.joinTail, splA]
  | x :: ws, w, h, hw => by
    rw [splA_word b w _ _ h, tail_cons, splA, if_pos rfl, splA_join b ws x (hw x (List.mem_cons_self ..)) (fun y hy => hw y (List.mem_cons_of_mem _ hy))]
    simp
theorem idx_word (b : UInt8) : ∀ (w r : List UInt8), (∀ c ∈ w, c ≠ b) → Lib.index (w ++ b :: r) [b] = (w.length : Int)
  | [], r, _ => by simp [Lib.index]
  | c :: w, r, h => by
    have ih := idx_word b w r (fun x hx => h x (List.mem_cons_of_mem _ hx))
    have hc := h c (List.mem_cons_self ..)
    rw [List.cons_append, Lib.index, if_neg (by simp [List.isPrefixOf]; exact fun e => hc e.symm), ih, if_neg (by first | (simp; done) | (simp; omega)), List.length_cons]
    omega
theorem idx_none (b : UInt8) : ∀ (l : List UInt8), (∀ c ∈ l, c ≠ b) → Lib.index l [b] = -1
  | [], _ => by simp [Lib.index]
  | c :: l, h => by
    have ih := idx_none b l (fun x hx => h x (List.mem_cons_of_mem _ hx))
    have hc := h c (List.mem_cons_self ..)
    rw [Lib.index, if_neg (by simp [List.isPrefixOf]; exact fun e => hc e.symm), ih]
    rfl
theorem splitK_join (b : UInt8) : ∀ (ws : List (List UInt8)) (w : List UInt8), (∀ c ∈ w, c ≠ b) → (∀ x ∈ ws, ∀ c ∈ x, c ≠ b) → Lib.splitK [b] 0 ws.length (w ++ Lib.joinTail [b] ws) = w :: ws
  | [], w, _, _ => by simp [Lib.joinTail, Lib.splitK]
  | x :: ws, w, h, hw => by
    have ih := splitK_join b ws x (hw x (List.mem_cons_self ..)) (fun y hy => hw y (List.mem_cons_of_mem _ hy))
    rw [List.length_cons, tail_cons, Lib.splitK, idx_word b w _ h, if_neg (by first | (simp; done) | (simp; omega))]
    simp [ih]
theorem count_none (b : UInt8) (w : List UInt8) (h : ∀ c ∈ w, c ≠ b) : w.count b = 0 := List.count_eq_zero.2 (fun hm => h b hm rfl)
theorem count_join (b : UInt8) : ∀ (ws : List (List UInt8)), (∀ x ∈ ws, ∀ c ∈ x, c ≠ b) → (Lib.joinTail [b] ws).count b = ws.length
  | [], _ => by simp [Lib.joinTail]
  | x :: ws, hw => by
    have ih := count_join b ws (fun y hy => hw y (List.mem_cons_of_mem _ hy))
    rw [tail_cons, List.count_cons_self, List.count_append, count_none b x (hw x (List.mem_cons_self ..)), ih, List.length_cons]
    omega
theorem isplit_words (s : ByteArray) (w : List UInt8) (ws : List (List UInt8)) (hw : ∀ c ∈ w, c ≠ 32) (hws : ∀ x ∈ ws, ∀ c ∈ x, c ≠ 32) (e : tl s = w ++ Lib.joinTail [32] ws) : (Lib.splitB (⟨#[32]⟩ : ByteArray) 0 (Lib.countB s (⟨#[32]⟩ : ByteArray)) s).map tl = w :: ws := by
  have hc : Lib.countB s (⟨#[32]⟩ : ByteArray) = ws.length := by
    show Lib.count (tl s) [32] = _
    rw [Lib.count_one, e, List.count_append, count_none 32 w hw, count_join 32 ws hws]
    omega
  have h := Lib.splitB_data (⟨#[32]⟩ : ByteArray) 0 (Lib.countB s (⟨#[32]⟩ : ByteArray)) s
  have e2 : (⟨#[32]⟩ : ByteArray).data.toList = [32] := rfl
  have e3 : s.data.toList = tl s := rfl
  rw [hc, e2, e3, e, splitK_join 32 ws w hw hws] at h
  rw [hc]
  exact h
theorem extract_small (s : ByteArray) (a b : Nat) : (s.extract a b).size ≤ s.size := by
  rw [tl_size, tl_size, tl_extract, List.length_drop, List.length_take]
  omega
theorem splitB_small (sep : ByteArray) : ∀ (k : Nat) (s : ByteArray), ∀ x ∈ Lib.splitB sep 0 k s, x.size ≤ s.size
  | 0, s, x, h => by
    rw [Lib.splitB_zero, List.mem_singleton] at h
    subst h
    exact Nat.le_refl _
  | k + 1, s, x, h => by
    unfold Lib.splitB at h
    split at h
    · rw [List.mem_singleton] at h
      subst h
      exact Nat.le_refl _
    · rcases List.mem_cons.1 h with rfl | h
      · exact extract_small _ _ _
      · exact Nat.le_trans (splitB_small sep k _ x h) (extract_small _ _ _)
theorem map_tl_inj : ∀ {a b : List ByteArray}, a.map tl = b.map tl → a = b
  | [], [], _ => rfl
  | [], _ :: _, h => by cases h
  | _ :: _, [], h => by cases h
  | x :: a, y :: b, h => by
    rw [List.map_cons, List.map_cons] at h
    injection h with h1 h2
    rw [tl_inj h1, map_tl_inj h2]
theorem ssplit_small (X : List ByteArray) (s : List UInt8) : ∀ (acc : List UInt8), X.map tl = splA 32 acc s → ∀ x ∈ X, x.size ≤ acc.length + s.length := by
  induction s generalizing X with
  | nil =>
    intro acc h x hx
    rw [splA] at h
    have : tl x ∈ [acc] := by rw [← h]; exact List.mem_map_of_mem hx
    rw [List.mem_singleton] at this
    rw [tl_size, this]
    simp
  | cons c s ih =>
    intro acc h x hx
    rw [splA] at h
    by_cases hc : c = 32
    · rw [if_pos hc] at h
      cases X with
      | nil => cases hx
      | cons y Y =>
        rw [List.map_cons] at h
        injection h with h1 h2
        rcases List.mem_cons.1 hx with rfl | hx
        · rw [tl_size, h1]; simp
        · have := ih Y [] h2 x hx
          simp at this ⊢
          omega
    · rw [if_neg hc] at h
      have := ih X _ h x hx
      simp at this ⊢
      omega

/-- A line is the text of a good record. -/
def OKr (s : ByteArray) (n : Int) (d : Bool) (key : Int) (vs : List S76) : Prop := recordB n d key vs = true ∧ recB n d key vs = s ++ (⟨#[10]⟩ : ByteArray)
theorem app_cancel {a b c : ByteArray} (h : a ++ c = b ++ c) : a = b := tl_inj (by
  have := congrArg tl h
  rw [tl_app, tl_app] at this
  exact List.append_cancel_right this)
theorem itoa_byte (n : Int) (c : UInt8) (h : c ∈ tl (itoaB n)) : c ≠ 32 := by
  have hd : ∀ u, c ∈ Lib.decDigits u → c ≠ 32 := fun u hu e => by
    have := dec_byte u c hu
    subst e
    simp at this
  rw [tl_itoa] at h
  unfold Lib.itoa at h
  split at h
  · rcases List.mem_cons.1 h with rfl | h
    · decide
    · exact hd _ h
  · exact hd _ h
theorem val_byte (v : S76) (c : UInt8) (h : c ∈ tl (valB v)) : c ≠ 32 := by
  unfold valB at h
  split at h
  · have : c = 45 := by simpa [tl] using h
    subst this
    decide
  · exact itoa_byte _ c h
/-- The words of a record's line behind the first. -/
def restB (d : Bool) (key : Int) (vs : List S76) (z : Int) : List ByteArray := ⟨#[if d = true then 100 else 112]⟩ :: itoaB key :: (vs.map valB ++ [itoaB z])
theorem rest_byte (d : Bool) (key : Int) (vs : List S76) (z : Int) : ∀ x ∈ (restB d key vs z).map tl, ∀ c ∈ x, c ≠ 32 := by
  intro x hx c hc
  obtain ⟨y, hy, rfl⟩ := List.mem_map.1 hx
  unfold restB at hy
  rcases List.mem_cons.1 hy with rfl | hy
  · cases d with
    | true => have : c = 100 := by simpa [tl] using hc
              subst this
              decide
    | false => have : c = 112 := by simpa [tl] using hc
               subst this
               decide
  · rcases List.mem_cons.1 hy with rfl | hy
    · exact itoa_byte _ c hc
    · rcases List.mem_append.1 hy with hy | hy
      · obtain ⟨v, _, rfl⟩ := List.mem_map.1 hy
        exact val_byte v c hc
      · rw [List.mem_singleton] at hy
        subst hy
        exact itoa_byte _ c hc
theorem rec_words {s : ByteArray} {n : Int} {d : Bool} {key : Int} {vs : List S76} (h : OKr s n d key vs) : ∃ z : Int, tl s = tl (itoaB n) ++ Lib.joinTail [32] ((restB d key vs z).map tl) := by
  obtain ⟨_, h2⟩ := h
  unfold recB at h2
  have e := app_cancel h2
  generalize hm : moreB (headB n (if d = true then 100 else 112) key) vs = m at e
  refine ⟨Int.tmod (csum m m.size) 9973, ?_⟩
  rw [← e]
  unfold checkedB restB
  generalize Int.tmod (csum m m.size) 9973 = z
  rw [tl_app, tl_app, ← hm, more_tl]
  unfold headB
  rw [tl_app, tl_app]
  simp [Lib.joinTail, tl, List.append_assoc, Function.comp_def]
theorem okr_size {s : ByteArray} {n : Int} {d : Bool} {key : Int} {vs : List S76} (h : OKr s n d key vs) : s.size ≤ 1000000 := by
  have h1 : (recB n d key vs).size ≤ 1000000 := rec_size h.1
  rw [h.2, ByteArray.size_append] at h1
  omega
theorem sread_t (s : ByteArray) (h1 : 1 ≤ s.size) (x v : Int) (hv : Ev (fun k => spec_l10Int.f k (s.extract 1 s.size)) v) : Ev (fun k => spec_l10Read.j0 k s x true) (false, if v < 0 then 5000 else wrap64 ((-1) * v)) := by
  refine Ev.step (f := fun k => (spec_l10Int.f k (s.extract 1 s.size)).bind fun t156 => if t156 < 0 then some (false, 5000) else some (false, wrap64 ((-1) * t156))) (fun k => by rw [spec_l10Read.j0, if_pos rfl, if_pos (by omega)]) (ev_bind hv ?_)
  by_cases h : v < 0
  · exact ev_ite_pos h (ev_some fun _ => by rw [if_pos h])
  · exact ev_ite_neg h (ev_some fun _ => by rw [if_neg h])
theorem sread_f (s : ByteArray) (x v : Int) (hv : Ev (fun k => spec_l10Int.f k s) v) : Ev (fun k => spec_l10Read.j0 k s x false) (false, if v < 0 then 5000 else wrap64 (x * v)) := by
  refine Ev.step (f := fun k => (spec_l10Int.f k s).bind fun t157 => if t157 < 0 then some (false, 5000) else some (false, wrap64 (x * t157))) (fun k => by rw [spec_l10Read.j0, if_neg (by simp)]) (ev_bind hv ?_)
  by_cases h : v < 0
  · exact ev_ite_pos h (ev_some fun _ => by rw [if_pos h])
  · exact ev_ite_neg h (ev_some fun _ => by rw [if_neg h])
theorem sread_ex (s : ByteArray) (hs : s.size ≤ 1000000) : ∃ (b : Bool) (v : Int), Ev (fun k => spec_l10Read.f k s) (b, v) := by
  unfold spec_l10Read.f
  by_cases h1 : s.toList = ([45] : List UInt8)
  · exact ⟨true, 0, ev_ite_pos h1 (ev_some fun _ => rfl)⟩
  · by_cases h2 : (s.size : Int) > 1
    · cases hb : (bt s 0 == 45) with
      | true =>
        obtain ⟨v, hv⟩ := sint_ex (s.extract 1 s.size) (Nat.le_trans (extract_small _ _ _) hs)
        exact ⟨_, _, ev_ite_neg h1 (ev_ite_pos h2 (ev_ite_pos (by omega) (sread_t s (by omega) 1 v hv)))⟩
      | false =>
        obtain ⟨v, hv⟩ := sint_ex s hs
        exact ⟨_, _, ev_ite_neg h1 (ev_ite_pos h2 (ev_ite_pos (by omega) (sread_f s 1 v hv)))⟩
    · obtain ⟨v, hv⟩ := sint_ex s hs
      exact ⟨_, _, ev_ite_neg h1 (ev_ite_neg h2 (sread_f s 1 v hv))⟩
theorem sread_val (v : S76) (h : goodVal v = true) : Ev (fun k => spec_l10Read.f k (valB v)) (v.f0, v.f1) := by
  unfold goodVal inB at h
  simp only [Bool.and_eq_true, decide_eq_true_eq] at h
  obtain ⟨b, n⟩ := v
  simp only at h
  obtain ⟨⟨h0, h1⟩, h2⟩ := h
  unfold spec_l10Read.f
  cases b with
  | true =>
    have hn : n = 0 := by simpa using h2
    subst hn
    have e : valB ⟨true, 0⟩ = ⟨#[45]⟩ := rfl
    rw [e]
    exact ev_ite_pos (by rw [str_list]) (ev_some fun _ => rfl)
  | false =>
    have e : valB ⟨false, n⟩ = itoaB n := rfl
    rw [e]
    have ht := tl_itoa n
    by_cases hneg : n < 0
    · have hi : Lib.itoa n = 45 :: Lib.decDigits n.natAbs := by unfold Lib.itoa; rw [if_pos hneg]
      rw [hi] at ht
      have hp := dec_pos n.natAbs
      have hz : (itoaB n).size = (Lib.decDigits n.natAbs).length + 1 := by rw [tl_size, ht]; rfl
      obtain ⟨hb, _, hr⟩ := bt_cons (itoaB n) 0 45 _ (by rw [List.drop_zero]; exact ht)
      have hv := sint_num n.natAbs (by omega) ((itoaB n).extract 1 (itoaB n).size) (by rw [tl_from]; exact hr)
      have hj := sread_t (itoaB n) (by omega) 1 _ hv
      rw [if_neg (by omega), w64 (by omega) (by omega), show (-1 : Int) * ((n.natAbs : Nat) : Int) = n by omega] at hj
      refine ev_ite_neg (by rw [str_list, ht]; intro e; injection e with _ e; rw [e] at hp; simp at hp) (ev_ite_pos (by omega) (ev_ite_pos (by omega) ?_))
      have hb0 : (bt (itoaB n) 0 == 45) = true := by
        have : bt (itoaB n) 0 = 45 := hb
        rw [this]
        rfl
      rw [hb0]
      exact hj
    · have hi : Lib.itoa n = Lib.decDigits n.toNat := by unfold Lib.itoa; rw [if_neg hneg]
      rw [hi] at ht
      have hp := dec_pos n.toNat
      obtain ⟨c, r, hc⟩ : ∃ c r, Lib.decDigits n.toNat = c :: r := by
        cases hd : Lib.decDigits n.toNat with
        | nil => rw [hd] at hp; simp at hp
        | cons c r => exact ⟨c, r, rfl⟩
      have hb := dec_byte n.toNat c (by rw [hc]; exact List.mem_cons_self ..)
      rw [hc] at ht
      obtain ⟨hbt, _, _⟩ := bt_cons (itoaB n) 0 c r (by rw [List.drop_zero]; exact ht)
      have hv := sint_itoa n (by omega) (by omega)
      have hj := sread_f (itoaB n) 1 _ hv
      rw [if_neg (by omega), w64 (by omega) (by omega), show (1 : Int) * n = n by omega] at hj
      refine ev_ite_neg (by rw [str_list, ht]; intro e; injection e with e _; rw [e] at hb; simp at hb) ?_
      have hb0 : (bt (itoaB n) 0 == 45) = false := by
        have : bt (itoaB n) 0 = (c.toNat : Int) := hbt
        rw [this]
        exact beq_eq_false_iff_ne.mpr (by omega)
      by_cases h3 : ((itoaB n).size : Int) > 1
      · refine ev_ite_pos h3 (ev_ite_pos (by omega) ?_)
        rw [hb0]
        exact hj
      · exact ev_ite_neg h3 hj
theorem atoi_itoa (n : Int) (h0 : -9999 ≤ n) (h1 : n ≤ 9999) : atoiN (itoaB n) = n := by
  have hN : ∀ u : Nat, Lib.decNat (Lib.decDigits u) = some u := fun u => by
    have hp := dec_pos u
    unfold Lib.decNat
    rw [if_neg (by cases hd : Lib.decDigits u with | nil => rw [hd] at hp; simp at hp | cons c r => simp)]
    exact dec_digits u
  have hA : Lib.atoi (Lib.itoa n) = some n := by
    unfold Lib.itoa
    by_cases h : n < 0
    · rw [if_pos h]
      unfold Lib.atoi
      simp only [BEq.rfl, if_true, hN]
      show some (-((n.natAbs : Nat) : Int)) = some n
      congr 1
      omega
    · rw [if_neg h]
      have hp := dec_pos n.toNat
      cases hd : Lib.decDigits n.toNat with
      | nil => rw [hd] at hp; simp at hp
      | cons c r =>
        have hb := dec_byte n.toNat c (by rw [hd]; exact List.mem_cons_self ..)
        have c1 : (c == 45) = false := beq_eq_false_iff_ne.mpr (fun e => by subst e; simp at hb)
        have c2 : (c == 43) = false := beq_eq_false_iff_ne.mpr (fun e => by subst e; simp at hb)
        unfold Lib.atoi
        simp only [c1, c2, Bool.false_eq_true, if_false]
        rw [← hd, hN]
        show some ((n.toNat : Nat) : Int) = some n
        congr 1
        omega
  have hl : (Lib.itoa n).length ≤ 18 := by
    unfold Lib.itoa
    split
    · have := dec_len4 n.natAbs (by omega)
      simp
      omega
    · have := dec_len4 n.toNat (by omega)
      omega
  unfold atoiN
  have e : (itoaB n).data.toList = Lib.itoa n := tl_itoa n
  rw [e, Lib.atoiAll_short _ hl, hA]
  rfl
/-- What the program reads of a word. -/
def rdI (y : ByteArray) : S76 := ⟨y.toList == ([45] : List UInt8), atoiN y⟩
theorem rdI_val (v : S76) (h : goodVal v = true) : rdI (valB v) = v := by
  unfold goodVal inB at h
  simp only [Bool.and_eq_true, decide_eq_true_eq] at h
  obtain ⟨b, n⟩ := v
  simp only at h
  obtain ⟨⟨h0, h1⟩, h2⟩ := h
  cases b with
  | true =>
    have hn : n = 0 := by simpa using h2
    subst hn
    have e : valB ⟨true, 0⟩ = ⟨#[45]⟩ := rfl
    unfold rdI
    rw [e, str_list]
    have a : atoiN (⟨#[45]⟩ : ByteArray) = 0 := by unfold atoiN; rfl
    rw [a]
    rfl
  | false =>
    have e : valB ⟨false, n⟩ = itoaB n := rfl
    unfold rdI
    rw [e, str_list, atoi_itoa n (by omega) (by omega)]
    congr 1
    have hp := dec_pos
    refine beq_eq_false_iff_ne.mpr (fun hh => ?_)
    rw [tl_itoa] at hh
    unfold Lib.itoa at hh
    split at hh
    · injection hh with _ hh
      have := hp n.natAbs
      rw [hh] at this
      simp at this
    · have hb := dec_byte n.toNat 45 (by rw [hh]; exact List.mem_cons_self ..)
      simp at hb

theorem splA_len (b : UInt8) : ∀ (l acc : List UInt8), (splA b acc l).length ≤ l.length + 1
  | [], acc => by simp [splA]
  | c :: l, acc => by
    rw [splA]
    split
    · have := splA_len b l []
      simp
      omega
    · have := splA_len b l (acc ++ [c])
      simp
      omega
/-- What the reference reads of words. -/
def RdS : List ByteArray → List S76 → Prop
  | [], [] => True
  | y :: ys, v :: vs => Ev (fun k => spec_l10Read.f k y) (v.f0, v.f1) ∧ RdS ys vs
  | _, _ => False
theorem rds_ex : ∀ ys : List ByteArray, (∀ y ∈ ys, y.size ≤ 1000000) → ∃ vs, RdS ys vs
  | [], _ => ⟨[], trivial⟩
  | y :: ys, h => by
    obtain ⟨vs, hv⟩ := rds_ex ys (fun x hx => h x (List.mem_cons_of_mem _ hx))
    obtain ⟨b, v, hb⟩ := sread_ex y (h y (List.mem_cons_self ..))
    exact ⟨⟨b, v⟩ :: vs, hb, hv⟩
theorem rds_val : ∀ vs : List S76, (∀ v ∈ vs, goodVal v = true) → RdS (vs.map valB) vs
  | [], _ => trivial
  | v :: vs, h => ⟨sread_val v (h v (List.mem_cons_self ..)), rds_val vs (fun x hx => h x (List.mem_cons_of_mem _ hx))⟩
theorem rds_len : ∀ {ys : List ByteArray} {vs : List S76}, RdS ys vs → vs.length = ys.length
  | [], [], _ => rfl
  | _ :: ys, _ :: vs, h => by rw [List.length_cons, List.length_cons, rds_len h.2]
  | [], _ :: _, h => h.elim
  | _ :: _, [], h => h.elim
theorem rdOf_drop (ys : List ByteArray) (i : Nat) (y : ByteArray) (yr : List ByteArray) (h : ys.drop i = y :: yr) : rdOf ByteArray.empty ys (i : Int) = y ∧ ys.drop (i + 1) = yr ∧ i < ys.length := by
  have hi : i < ys.length := by
    rcases Nat.lt_or_ge i ys.length with h' | h'
    · exact h'
    · rw [List.drop_of_length_le h'] at h; cases h
  rw [List.drop_eq_getElem_cons hi] at h
  injection h with h1 h2
  refine ⟨?_, h2, hi⟩
  unfold rdOf
  rw [Int.toNat_natCast, List.getD_eq_getElem?_getD, List.getElem?_eq_getElem hi, ← h1]
  rfl
/-- What a reader makes of a record that it has read. -/
def endS (k : Nat) (s : ByteArray) (n : Int) (d : Bool) (key : Int) (vs : List S76) : Option (Int × Bool × Int × (List S76) × Bool) := (spec_GoodRecord.f k n d key vs).bind fun t178 => (if t178 = true then ((spec_l10Text.f k n d key vs).bind fun t179 => (if s.size + 1 ≤ 9223372036854775807 then (some (n, d, key, vs, (t179.toList == (s ++ (⟨#[10]⟩ : ByteArray)).toList))) else (none))) else (some (n, d, key, vs, false)))
def endI (k : Nat) (s : ByteArray) (n : Int) (d : Bool) (key : Int) (vs : List S76) : Option (Int × Bool × Int × (List S76) × Bool) := (impl_GoodRecord.f k n d key vs).bind fun t178 => (if t178 = true then ((impl_recordText.f k n d key vs).bind fun t179 => (if s.size + 1 ≤ 9223372036854775807 then (some (n, d, key, vs, (t179.toList == (s ++ (⟨#[10]⟩ : ByteArray)).toList))) else (none))) else (some (n, d, key, vs, false)))
theorem ends_tell (s : ByteArray) (hs : s.size ≤ 1000000) (n : Int) (d : Bool) (key : Int) (vs : List S76) (hl : vs.length ≤ 1048576) : ∃ o : Bool, Ev (fun k => endS k s n d key vs) (n, d, key, vs, o) ∧ Ev (fun k => endI k s n d key vs) (n, d, key, vs, o) ∧ (o = true ↔ OKr s n d key vs) := by
  have a := srecord_tells n d key vs hl
  have b := irecord_tells n d key vs hl
  unfold endS endI OKr
  cases hq : recordB n d key vs with
  | false =>
    rw [hq] at a b
    exact ⟨false, ev_bind a (ev_ite_neg (by simp) (ev_some fun _ => rfl)), ev_bind b (ev_ite_neg (by simp) (ev_some fun _ => rfl)), by simp⟩
  | true =>
    rw [hq] at a b
    refine ⟨(recB n d key vs).toList == (s ++ (⟨#[10]⟩ : ByteArray)).toList, ev_bind a (ev_ite_pos rfl (ev_bind (stext_tells hq) (ev_ite_pos (by omega) (ev_some fun _ => rfl)))), ev_bind b (ev_ite_pos rfl (ev_bind (itext_tells hq) (ev_ite_pos (by omega) (ev_some fun _ => rfl)))), ?_⟩
    rw [beq_iff_eq, str_list, str_list]
    exact ⟨fun e => ⟨rfl, tl_inj e⟩, fun e => by rw [e.2]⟩
theorem sline_loop (s : ByteArray) (ys : List ByteArray) (hl : ys.length ≤ 1048576) (n : Int) (d : Bool) (key : Int) (r : Int × Bool × Int × (List S76) × Bool) : ∀ (yr : List ByteArray) (vr : List S76) (i : Nat) (acc : List S76), ys.drop i = yr → i + yr.length = ys.length → acc.length ≤ i → RdS yr vr → Ev (fun k => endS k s n d key (acc ++ vr)) r → Ev (fun k => spec_l10Line.l0 k s ys (ys.length : Int) (i : Int) n d key acc) r
  | [], [], i, acc, h, hi, ha, _, hE => by
    rw [List.append_nil] at hE
    rw [List.length_nil] at hi
    exact ev_step hE fun k => by rw [spec_l10Line.l0, if_neg (by omega)]; rfl
  | y :: yr, v :: vr, i, acc, h, hi, ha, hv, hE => by
    obtain ⟨h1, h2, h3⟩ := rdOf_drop ys i y yr h
    rw [List.length_cons] at hi
    have ih := sline_loop s ys hl n d key r yr vr (i + 1) (acc ++ [v]) h2 (by omega) (by simp; omega) hv.2 (by rw [List.append_assoc]; exact hE)
    refine Ev.step (f := fun k => (spec_l10Read.f k y).bind fun bt173 => if acc.length < 8796093022208 then spec_l10Line.l0 k s ys (ys.length : Int) ((i + 1 : Nat) : Int) n d key (acc ++ [(⟨bt173.1, bt173.2⟩ : S76)]) else none) (fun k => by rw [spec_l10Line.l0, if_pos (by omega), if_pos (by omega), if_pos (by omega), h1, next i (by omega)]) (ev_bind hv.1 (ev_ite_pos (by omega) ih))
  | [], _ :: _, _, _, _, _, _, hv, _ => hv.elim
  | _ :: _, [], _, _, _, _, _, hv, _ => hv.elim
theorem iline_loop (s : ByteArray) (ys : List ByteArray) (hl : ys.length ≤ 1048576) (hz : ∀ y ∈ ys, y.size ≤ 1000000) (n : Int) (d : Bool) (key : Int) (r : Int × Bool × Int × (List S76) × Bool) : ∀ (yr : List ByteArray) (i : Nat) (acc : List S76), ys.drop i = yr → i + yr.length = ys.length → acc.length ≤ i → Ev (fun k => endI k s n d key (acc ++ yr.map rdI)) r → Ev (fun k => impl_record.l0 k s ys (ys.length : Int) (i : Int) n d key acc) r
  | [], i, acc, h, hi, ha, hE => by
    rw [List.map_nil, List.append_nil] at hE
    rw [List.length_nil] at hi
    exact ev_step hE fun k => by rw [impl_record.l0, if_neg (by omega)]; rfl
  | y :: yr, i, acc, h, hi, ha, hE => by
    obtain ⟨h1, h2, h3⟩ := rdOf_drop ys i y yr h
    rw [List.length_cons] at hi
    have ih := iline_loop s ys hl hz n d key r yr (i + 1) (acc ++ [rdI y]) h2 (by omega) (by simp; omega) (by rw [List.append_assoc]; exact hE)
    have hy : strconv_Atoi.f y = some (atoiN y, none) := by
      unfold strconv_Atoi.f
      rw [if_pos (hz y (List.mem_of_mem_drop (i := i) (by rw [h]; exact List.mem_cons_self ..)))]
    refine ev_step ih fun k => ?_
    rw [impl_record.l0, if_pos (by omega), if_pos (by omega), if_pos (by omega), h1, hy, Option.bind_some, if_pos (by omega), next i (by omega)]
    rfl
theorem sline_ws (s : ByteArray) (ws : List ByteArray) (hsp : Ev (fun k => spec_l10Split.f k s 32) ws) (hl : ws.length ≤ 1000002) (h4 : 4 ≤ ws.length) (n key : Int) (hn : Ev (fun k => spec_l10Int.f k (rdOf ByteArray.empty ws 0)) n) (hk : Ev (fun k => spec_l10Int.f k (rdOf ByteArray.empty ws 2)) key) (vs : List S76) (hv : RdS ((ws.take (ws.length - 1)).drop 3) vs) (r : Int × Bool × Int × (List S76) × Bool) (hE : Ev (fun k => endS k s n ((rdOf ByteArray.empty ws 1).toList == ([100] : List UInt8)) key vs) r) : Ev (fun k => spec_l10Line.f k s) r := by
  have hw : wrap64 ((ws.length : Int) - 1) = ((ws.length - 1 : Nat) : Int) := by rw [w64 (by omega) (by omega)]; omega
  unfold spec_l10Line.f
  refine ev_bind hsp (ev_ite_neg (by omega) (ev_ite_pos (by omega) (ev_bind hn (ev_ite_pos (by omega) (ev_ite_pos (by omega) (ev_bind hk ?_))))))
  refine ev_ite_pos (by omega) (ev_ite_pos (by omega) (ev_some_bind rfl ?_))
  rw [hw, Int.toNat_natCast]
  exact sline_loop s _ (by simp; omega) n _ key r _ vs 0 [] (by rw [List.drop_zero]) (by omega) (by simp) hv (by rw [List.nil_append]; exact hE)
theorem iline_ws (s : ByteArray) (hs : s.size < 1000000) (ws : List ByteArray) (hsp : Lib.splitB (⟨#[32]⟩ : ByteArray) 0 (Lib.countB s (⟨#[32]⟩ : ByteArray)) s = ws) (hl : ws.length ≤ 1000002) (h4 : 4 ≤ ws.length) (r : Int × Bool × Int × (List S76) × Bool) (hE : Ev (fun k => endI k s (atoiN (rdOf ByteArray.empty ws 0)) ((rdOf ByteArray.empty ws 1).toList == ([100] : List UInt8)) (atoiN (rdOf ByteArray.empty ws 2)) (((ws.take (ws.length - 1)).drop 3).map rdI)) r) : Ev (fun k => impl_record.f k s) r := by
  have hw : wrap64 ((ws.length : Int) - 1) = ((ws.length - 1 : Nat) : Int) := by rw [w64 (by omega) (by omega)]; omega
  have hz : ∀ y ∈ ws, y.size ≤ 1000000 := fun y hy => by
    rw [← hsp] at hy
    have := splitB_small _ _ _ y hy
    omega
  have hS : strings_Split.f s (⟨#[32]⟩ : ByteArray) = some ws := by
    unfold strings_Split.f
    rw [if_pos ⟨hs, by decide⟩, hsp]
  have hA : ∀ j : Nat, j < ws.length → strconv_Atoi.f (rdOf ByteArray.empty ws (j : Int)) = some (atoiN (rdOf ByteArray.empty ws (j : Int)), none) := fun j hj => by
    have hm : rdOf ByteArray.empty ws (j : Int) ∈ ws := by
      unfold rdOf
      rw [Int.toNat_natCast, List.getD_eq_getElem?_getD, List.getElem?_eq_getElem hj]
      exact List.getElem_mem hj
    unfold strconv_Atoi.f
    rw [if_pos (hz _ hm)]
  unfold impl_record.f
  refine ev_some_bind hS (ev_ite_neg (by omega) (ev_ite_pos (by omega) (ev_some_bind (hA 0 (by omega)) (ev_ite_pos (by omega) (ev_some_bind (hA 2 (by omega)) (ev_ite_pos (by omega) ?_))))))
  refine ev_ite_pos (by omega) (ev_ite_pos (by omega) (ev_some_bind rfl ?_))
  rw [hw, Int.toNat_natCast]
  exact iline_loop s _ (by simp; omega) (fun y hy => hz y (List.mem_of_mem_take (List.mem_of_mem_drop hy))) _ _ _ r _ 0 [] (by rw [List.drop_zero]) (by omega) (by simp) (by rw [List.nil_append]; exact hE)
theorem sline_any (s : ByteArray) (hs : s.size < 1000000) : ∃ (n : Int) (d : Bool) (key : Int) (vs : List S76) (o : Bool), Ev (fun k => spec_l10Line.f k s) (n, d, key, vs, o) ∧ (o = true → OKr s n d key vs) := by
  obtain ⟨ws, hsp, hm⟩ := ssplit s (by omega)
  have hl : ws.length ≤ 1000002 := by
    have h1 := splA_len 32 (tl s) []
    rw [← hm, List.length_map, ← tl_size] at h1
    omega
  by_cases h4 : 4 ≤ ws.length
  · have hz : ∀ y ∈ ws, y.size ≤ 1000000 := fun y hy => by
      have := ssplit_small ws (tl s) [] hm y hy
      rw [← tl_size] at this
      simp at this
      omega
    have hg : ∀ j : Nat, j < ws.length → (rdOf ByteArray.empty ws (j : Int)).size ≤ 1000000 := fun j hj => by
      refine hz _ ?_
      unfold rdOf
      rw [Int.toNat_natCast, List.getD_eq_getElem?_getD, List.getElem?_eq_getElem hj]
      exact List.getElem_mem hj
    obtain ⟨n, hn⟩ := sint_ex _ (hg 0 (by omega))
    obtain ⟨key, hk⟩ := sint_ex _ (hg 2 (by omega))
    obtain ⟨vs, hv⟩ := rds_ex ((ws.take (ws.length - 1)).drop 3) (fun y hy => hz y (List.mem_of_mem_take (List.mem_of_mem_drop hy)))
    have hvl := rds_len hv
    obtain ⟨o, hE, _, ho⟩ := ends_tell s (by omega) n ((rdOf ByteArray.empty ws 1).toList == ([100] : List UInt8)) key vs (by rw [hvl]; simp; omega)
    exact ⟨n, _, key, vs, o, sline_ws s ws hsp hl h4 n key hn hk vs hv _ hE, ho.1⟩
  · refine ⟨0, false, 0, [], false, ?_, by simp⟩
    unfold spec_l10Line.f
    exact ev_bind hsp (ev_ite_pos (by omega) (ev_some fun _ => rfl))
theorem iline_any (s : ByteArray) (hs : s.size < 1000000) : ∃ (n : Int) (d : Bool) (key : Int) (vs : List S76) (o : Bool), Ev (fun k => impl_record.f k s) (n, d, key, vs, o) ∧ (o = true → OKr s n d key vs) := by
  obtain ⟨ws, hsp⟩ : ∃ ws, Lib.splitB (⟨#[32]⟩ : ByteArray) 0 (Lib.countB s (⟨#[32]⟩ : ByteArray)) s = ws := ⟨_, rfl⟩
  have hl : ws.length ≤ 1000002 := by
    have h1 := Lib.splitB_length_le (⟨#[32]⟩ : ByteArray) 0 (Lib.countB s (⟨#[32]⟩ : ByteArray)) s
    have h2 := Lib.countB_le (⟨#[32]⟩ : ByteArray) (by decide) s.size s (Nat.le_refl _)
    rw [hsp] at h1
    omega
  by_cases h4 : 4 ≤ ws.length
  · obtain ⟨o, _, hE, ho⟩ := ends_tell s (by omega) (atoiN (rdOf ByteArray.empty ws 0)) ((rdOf ByteArray.empty ws 1).toList == ([100] : List UInt8)) (atoiN (rdOf ByteArray.empty ws 2)) (((ws.take (ws.length - 1)).drop 3).map rdI) (by simp; omega)
    exact ⟨_, _, _, _, o, iline_ws s hs ws hsp hl h4 _ hE, ho.1⟩
  · refine ⟨0, false, 0, [], false, ?_, by simp⟩
    have hS : strings_Split.f s (⟨#[32]⟩ : ByteArray) = some ws := by
      unfold strings_Split.f
      rw [if_pos ⟨hs, by decide⟩, hsp]
    unfold impl_record.f
    exact ev_some_bind hS (ev_ite_pos (by omega) (ev_some fun _ => rfl))
theorem mid_words (a b c z : ByteArray) (m : List ByteArray) : (((a :: b :: c :: (m ++ [z])).take ((a :: b :: c :: (m ++ [z])).length - 1)).drop 3) = m := by simp
theorem dbyte (d : Bool) : ((⟨#[if d = true then 100 else 112]⟩ : ByteArray).toList == ([100] : List UInt8)) = d := by
  rw [str_list]
  cases d <;> rfl
theorem lines_ok {s : ByteArray} {n : Int} {d : Bool} {key : Int} {vs : List S76} (hs : s.size < 1000000) (h : OKr s n d key vs) : Ev (fun k => spec_l10Line.f k s) (n, d, key, vs, true) ∧ Ev (fun k => impl_record.f k s) (n, d, key, vs, true) := by
  obtain ⟨z, e⟩ := rec_words h
  obtain ⟨h0, h1, h2, h3, hl, hg, _⟩ := rec_good h.1
  have hb := rest_byte d key vs z
  obtain ⟨o, hE, hI, ho⟩ := ends_tell s (by omega) n d key vs (by omega)
  rw [ho.2 h] at hE hI
  have hlen : (itoaB n :: restB d key vs z).length = vs.length + 4 := by simp [restB]
  constructor
  · obtain ⟨ws, hsp, hm⟩ := ssplit s (by omega)
    rw [e, splA_join 32 _ _ (fun c hc => itoa_byte n c hc) hb, ← List.map_cons] at hm
    have hw := map_tl_inj hm
    subst hw
    refine sline_ws s _ hsp (by omega) (by omega) n key (sint_itoa n (by omega) (by omega)) (sint_itoa key (by omega) (by omega)) vs ?_ _ ?_
    · unfold restB
      rw [mid_words]
      exact rds_val vs hg
    · have hd : ((rdOf ByteArray.empty (itoaB n :: restB d key vs z) 1).toList == ([100] : List UInt8)) = d := dbyte d
      rw [hd]
      exact hE
  · have hm := isplit_words s _ _ (fun c hc => itoa_byte n c hc) hb e
    rw [← List.map_cons] at hm
    have hw := map_tl_inj hm
    refine iline_ws s hs _ hw (by omega) (by omega) _ ?_
    have hd : ((rdOf ByteArray.empty (itoaB n :: restB d key vs z) 1).toList == ([100] : List UInt8)) = d := dbyte d
    have hn : atoiN (rdOf ByteArray.empty (itoaB n :: restB d key vs z) 0) = n := atoi_itoa n (by omega) (by omega)
    have hk : atoiN (rdOf ByteArray.empty (itoaB n :: restB d key vs z) 2) = key := atoi_itoa key (by omega) (by omega)
    have hv : (((itoaB n :: restB d key vs z).take ((itoaB n :: restB d key vs z).length - 1)).drop 3).map rdI = vs := by
      unfold restB
      rw [mid_words, List.map_map]
      conv => rhs; rw [← List.map_id vs]
      exact List.map_congr_left (fun v hv => rdI_val v (hg v hv))
    rw [hd, hn, hk, hv]
    exact hI
theorem ev_same {α : Type} {g : Nat → Option α} {a b : α} (h1 : Ev g a) (h2 : Ev g b) : a = b := by
  obtain ⟨K, hK⟩ := h1
  obtain ⟨L, hL⟩ := h2
  have x := hK (max K L) (by omega)
  rw [hL (max K L) (by omega)] at x
  exact (Option.some.inj x).symm
/-- The two read a line alike: either no record, or the same. -/
theorem lines_same (s : ByteArray) (hs : s.size < 1000000) : (∃ (n : Int) (d : Bool) (key : Int) (vs : List S76), vs.length ≤ 3 ∧ Ev (fun k => spec_l10Line.f k s) (n, d, key, vs, true) ∧ Ev (fun k => impl_record.f k s) (n, d, key, vs, true)) ∨ (∃ (n n' : Int) (d d' : Bool) (key key' : Int) (vs vs' : List S76), Ev (fun k => spec_l10Line.f k s) (n, d, key, vs, false) ∧ Ev (fun k => impl_record.f k s) (n', d', key', vs', false)) := by
  obtain ⟨n, d, key, vs, o, h1, h2⟩ := sline_any s hs
  obtain ⟨n', d', key', vs', o', h1', h2'⟩ := iline_any s hs
  cases o with
  | true =>
    have ok := h2 rfl
    have l3 : vs.length ≤ 3 := (rec_good ok.1).2.2.2.2.1
    exact .inl ⟨n, d, key, vs, l3, lines_ok hs ok⟩
  | false =>
    cases o' with
    | true =>
      have ok := h2' rfl
      have := ev_same h1 (lines_ok hs ok).1
      simp at this
    | false => exact .inr ⟨n, n', d, d', key, key', vs, vs', h1, h1'⟩

theorem nl_cases (b : UInt8) : ∀ l : List UInt8, (∀ c ∈ l, c ≠ b) ∨ ∃ w r, l = w ++ b :: r ∧ ∀ c ∈ w, c ≠ b
  | [] => .inl (by simp)
  | x :: l => by
    by_cases hx : x = b
    · exact .inr ⟨[], l, by rw [hx]; rfl, by simp⟩
    · rcases nl_cases b l with h | ⟨w, r, e, h⟩
      · exact .inl (fun c hc => (List.mem_cons.1 hc).elim (fun e => by rw [e]; exact hx) (h c))
      · exact .inr ⟨x :: w, r, by rw [e]; rfl, fun c hc => (List.mem_cons.1 hc).elim (fun e => by rw [e]; exact hx) (h c)⟩
theorem scan_none (s : ByteArray) (hs : s.size ≤ 1000000) (out : List S34) (a : Nat) : ∀ (d e : Nat), e + d = s.size → (∀ c ∈ (tl s).drop e, c ≠ 10) → Ev (fun k => spec_l10Log.l1 k s out (a : Int) (e : Int)) (out, (a : Int))
  | 0, e, h, _ => by
    refine Ev.step (f := fun k => spec_l10Log.j2 k s out (a : Int) (e : Int)) (fun k => by rw [spec_l10Log.l1, if_neg (by omega)]) (ev_stop fun k => by rw [spec_l10Log.j2, if_pos (by omega)])
  | d + 1, e, h, hn => by
    have hi : e < (tl s).length := by rw [← tl_size]; omega
    have hd := List.drop_eq_getElem_cons hi
    obtain ⟨hb, _, _⟩ := bt_cons s e _ _ hd
    rw [hd] at hn
    have hc := hn _ (List.mem_cons_self ..)
    have ih := scan_none s hs out a d (e + 1) (by omega) (fun c h => hn c (List.mem_cons_of_mem _ h))
    refine ev_step ih fun k => ?_
    rw [spec_l10Log.l1, if_pos (by omega), if_pos (by omega), hb, if_neg (fun q => hc (UInt8.toNat_inj.1 (by show (tl s)[e].toNat = 10; omega))), next e (by omega)]
theorem scan_hit (s : ByteArray) (hs : s.size ≤ 1000000) (out : List S34) (a : Nat) (q : List S34 × Int) : ∀ (w : List UInt8) (e : Nat) (r : List UInt8), (tl s).drop e = w ++ 10 :: r → (∀ c ∈ w, c ≠ 10) → Ev (fun k => spec_l10Log.j2 k s out (a : Int) ((e + w.length : Nat) : Int)) q → Ev (fun k => spec_l10Log.l1 k s out (a : Int) (e : Int)) q
  | [], e, r, h, _, hj => by
    obtain ⟨hb, hi, _⟩ := bt_cons s e 10 r h
    exact ev_step hj fun k => by rw [spec_l10Log.l1, if_pos (by omega), if_pos (by omega), hb, if_pos (by rfl)]; rfl
  | c :: w, e, r, h, hw, hj => by
    obtain ⟨hb, hi, hr⟩ := bt_cons s e c (w ++ 10 :: r) h
    have hc := hw c (List.mem_cons_self ..)
    have ih := scan_hit s hs out a q w (e + 1) r hr (fun x hx => hw x (List.mem_cons_of_mem _ hx)) (by rw [show e + 1 + w.length = e + (c :: w).length by rw [List.length_cons]; omega]; exact hj)
    refine ev_step ih fun k => ?_
    rw [spec_l10Log.l1, if_pos (by omega), if_pos (by omega), hb, if_neg (fun q => hc (UInt8.toNat_inj.1 (by show c.toNat = 10; omega))), next e (by omega)]
theorem cut_none (l : List UInt8) (h : ∀ c ∈ l, c ≠ 10) : Lib.cut l [10] = (l, [], false) := by
  unfold Lib.cut
  rw [idx_none 10 l h, if_neg (by decide)]
theorem cut_hit (w r : List UInt8) (h : ∀ c ∈ w, c ≠ 10) : Lib.cut (w ++ 10 :: r) [10] = (w, r, true) := by
  unfold Lib.cut
  rw [idx_word 10 w r h, if_pos (by omega)]
  simp
theorem cut_f (s : ByteArray) (hs : s.size ≤ 1000000) (a : Nat) (l r : List UInt8) (o : Bool) (h : Lib.cut ((tl s).drop a) [10] = (l, r, o)) : strings_Cut.f (s.extract a s.size) (⟨#[10]⟩ : ByteArray) = some (⟨l.toArray⟩, ⟨r.toArray⟩, o) := by
  have e : (s.extract a s.size).data.toList = (tl s).drop a := tl_from s a
  have e2 : (⟨#[10]⟩ : ByteArray).data.toList = [10] := rfl
  have hz := extract_small s a s.size
  unfold strings_Cut.f
  rw [if_pos (by omega), e, e2, h]
theorem logs_same (s : ByteArray) (hs : s.size ≤ 600) : ∀ (d : Nat) (out : List S34) (a : Nat), out.length + d = 40 → a ≤ s.size → (∀ r ∈ out, r.f2.f1.length ≤ 3) → ∃ (out' : List S34) (a' : Int), Ev (fun k => spec_l10Log.l0 k s out (a : Int)) (out', a') ∧ Ev (fun k => impl_readLog.l0 k s out (a : Int)) (out', a') ∧ out'.length ≤ 40 ∧ ∀ r ∈ out', r.f2.f1.length ≤ 3
  | 0, out, a, h, ha, ho => ⟨out, a, ev_stop fun k => by rw [spec_l10Log.l0, if_neg (by omega)], ev_stop fun k => by rw [impl_readLog.l0, if_neg (by omega)], by omega, ho⟩
  | d + 1, out, a, h, ha, ho => by
    have istep : ∀ (l r : List UInt8) (o : Bool), Lib.cut ((tl s).drop a) [10] = (l, r, o) → ∀ k, impl_readLog.l0 (k + 1) s out (a : Int) = (impl_record.f k ⟨l.toArray⟩).bind fun bt258 => (if o = true then (if bt258.2.2.2.2 = true then (if bt258.1 = ((out.length + 1 : Nat) : Int) then (if out.length < 2932031007402 then (impl_readLog.l0 k s (out ++ [(⟨bt258.1, bt258.2.1, (⟨bt258.2.2.1, bt258.2.2.2.1⟩ : S32)⟩ : S34)]) (wrap64 ((wrap64 ((a : Int) + (l.length : Int))) + 1))) else (none)) else (some (out, (a : Int)))) else (some (out, (a : Int)))) else (some (out, (a : Int)))) := fun l r o hc k => by
      rw [impl_readLog.l0, if_pos (by omega), if_pos (by omega), if_pos (by omega), Int.toNat_natCast, cut_f s (by omega) a l r o hc, Option.bind_some, next out.length (by omega)]
      rfl
    have hlen : (tl s).length = s.size := (tl_size s).symm
    rcases nl_cases 10 ((tl s).drop a) with hn | ⟨w, rest, he, hw⟩
    · have hi := istep _ [] false (cut_none _ hn)
      obtain ⟨n, dr, key, vs, o, h1, _⟩ := iline_any ⟨((tl s).drop a).toArray⟩ (by show ((tl s).drop a).toArray.size < _; rw [List.size_toArray, List.length_drop]; omega)
      refine ⟨out, a, Ev.step (f := fun k => spec_l10Log.l1 k s out (a : Int) (a : Int)) (fun k => by rw [spec_l10Log.l0, if_pos (by omega)]) (scan_none s (by omega) out a (s.size - a) a (by omega) hn), Ev.step hi (ev_bind h1 (ev_some fun _ => rfl)), by omega, ho⟩
    · have hi := istep w rest true (by rw [he]; exact cut_hit w rest hw)
      have hw2 : (w ++ 10 :: rest).length = s.size - a := by rw [← he, List.length_drop, hlen]
      rw [List.length_append, List.length_cons] at hw2
      have hline : s.extract a (a + w.length) = (⟨w.toArray⟩ : ByteArray) := by
        refine tl_inj ?_
        rw [tl_extract, List.drop_take, he, show a + w.length - a = w.length by omega, List.take_left']
        rfl
      have sstep : ∀ k, spec_l10Log.j2 (k + 1) s out (a : Int) ((a + w.length : Nat) : Int) = (spec_l10Line.f k ⟨w.toArray⟩).bind fun bt180 => (if bt180.2.2.2.2 = true then (if bt180.1 = ((out.length + 1 : Nat) : Int) then (if out.length < 2932031007402 then (spec_l10Log.l0 k s (out ++ [(⟨bt180.1, bt180.2.1, (⟨bt180.2.2.1, bt180.2.2.2.1⟩ : S32)⟩ : S34)]) ((a + w.length + 1 : Nat) : Int)) else (none)) else (some (out, (a : Int)))) else (some (out, (a : Int)))) := fun k => by
        rw [spec_l10Log.j2, if_neg (by omega), if_pos (by omega), if_pos (by omega), if_pos (by omega), Int.toNat_natCast, Int.toNat_natCast, hline, next out.length (by omega), next (a + w.length) (by omega)]
      have go : ∀ q, Ev (fun k => spec_l10Log.j2 k s out (a : Int) ((a + w.length : Nat) : Int)) q → Ev (fun k => spec_l10Log.l0 k s out (a : Int)) q := fun q hq => Ev.step (f := fun k => spec_l10Log.l1 k s out (a : Int) (a : Int)) (fun k => by rw [spec_l10Log.l0, if_pos (by omega)]) (scan_hit s (by omega) out a q w a rest he hw hq)
      have hat : wrap64 ((wrap64 ((a : Int) + (w.length : Int))) + 1) = ((a + w.length + 1 : Nat) : Int) := by
        rw [w64 (i := (a : Int) + (w.length : Int)) (by omega) (by omega), w64 (by omega) (by omega)]
        omega
      rw [hat] at hi
      rcases lines_same ⟨w.toArray⟩ (by show w.toArray.size < _; rw [List.size_toArray]; omega) with ⟨n, dr, key, vs, hl, h1, h2⟩ | ⟨n, n', dr, dr', key, key', vs, vs', h1, h2⟩
      · by_cases hno : n = ((out.length + 1 : Nat) : Int)
        · obtain ⟨out', a', g1, g2, g3, g4⟩ := logs_same s hs d (out ++ [(⟨n, dr, (⟨key, vs⟩ : S32)⟩ : S34)]) (a + w.length + 1) (by simp; omega) (by omega) (fun r hr => by
            rcases List.mem_append.1 hr with hr | hr
            · exact ho r hr
            · rw [List.mem_singleton] at hr
              subst hr
              exact hl)
          exact ⟨out', a', go _ (Ev.step sstep (ev_bind h1 (ev_ite_pos rfl (ev_ite_pos hno (ev_ite_pos (by omega) g1))))), Ev.step hi (ev_bind h2 (ev_ite_pos rfl (ev_ite_pos rfl (ev_ite_pos hno (ev_ite_pos (by omega) g2))))), g3, g4⟩
        · exact ⟨out, a, go _ (Ev.step sstep (ev_bind h1 (ev_ite_pos rfl (ev_ite_neg hno (ev_some fun _ => rfl))))), Ev.step hi (ev_bind h2 (ev_ite_pos rfl (ev_ite_pos rfl (ev_ite_neg hno (ev_some fun _ => rfl))))), by omega, ho⟩
      · exact ⟨out, a, go _ (Ev.step sstep (ev_bind h1 (ev_ite_neg (by simp) (ev_some fun _ => rfl)))), Ev.step hi (ev_bind h2 (ev_ite_pos rfl (ev_ite_neg (by simp) (ev_some fun _ => rfl)))), by omega, ho⟩

theorem cutlog_same (s : ByteArray) (n : Int) : ∃ (l : List S34) (o : Bool), Ev (fun k => spec_CutLog.f k s n) (l, o) ∧ Ev (fun k => impl_CutLog.f k s n) (l, o) ∧ l.length ≤ 40 ∧ ∀ r ∈ l, r.f2.f1.length ≤ 3 := by
  have s1 : spec_l1In.f n 0 (s.size : Int) = some (inB 0 (s.size : Int) n) := sin_tells n 0 _
  have s2 : impl_within.f n 0 (s.size : Int) = some (inB 0 (s.size : Int) n) := within_tells n 0 _
  unfold spec_CutLog.f impl_CutLog.f
  by_cases h : (s.size : Int) > 600
  · exact ⟨[], false, ev_ite_pos h (ev_some fun _ => rfl), ev_ite_pos h (ev_some fun _ => rfl), by simp, by simp⟩
  · cases hq : inB 0 (s.size : Int) n with
    | false =>
      rw [hq] at s1 s2
      exact ⟨[], false, ev_ite_neg h (ev_some_bind s1 (ev_ite_neg (by simp) (ev_some fun _ => rfl))), ev_ite_neg h (ev_some_bind s2 (ev_ite_neg (by simp) (ev_some fun _ => rfl))), by simp, by simp⟩
    | true =>
      rw [hq] at s1 s2
      have hb : 0 ≤ n ∧ n ≤ (s.size : Int) := by
        unfold inB at hq
        simpa using hq
      have hz := extract_small s 0 n.toNat
      obtain ⟨l, a, h1, h2, h3, h4⟩ := logs_same (s.extract 0 n.toNat) (by omega) 40 [] 0 rfl (by omega) (by simp)
      exact ⟨l, true, ev_ite_neg h (ev_some_bind s1 (ev_ite_pos rfl (ev_ite_pos hb.1 (ev_ite_pos hb.2 (ev_bind (a := (l, a)) h1 (ev_some fun _ => rfl)))))), ev_ite_neg h (ev_some_bind s2 (ev_ite_pos rfl (ev_ite_pos hb.1 (ev_ite_pos hb.2 (ev_bind (a := (l, a)) h2 (ev_some fun _ => rfl)))))), h3, h4⟩
theorem FnExactCutLog : laws_FnExactCutLog.Good := by
  intro a0 n hm _
  unfold laws_FnExactCutLog.Pass
  by_cases hz : (a0.size : Int) > 1048576
  · exact ⟨0, .inl hz⟩
  obtain ⟨l, o, h1, h2, h3, h4⟩ := cutlog_same a0 n
  have h4' : ∀ r ∈ l, r.f2.f1.length ≤ 1048576 := fun r hr => by have := h4 r hr; omega
  have hq := recsum_le l h4'
  have m := markRec_tells l 1 (by omega) h4' (by omega) (by omega)
  have hh := heldRec_tells l 1 (by omega) h4' (by omega) (by omega)
  have he := eqrecs_tells l (by omega) h4'
  exact (((Evs.ev h1).and ((Evs.ev h2).and ((Evs.ev he).and ((Evs.ev m).and (Evs.ev hh))))).mono fun k ⟨d0, d1, d2, d3, d4⟩ => .inr ⟨hz, l, o, _, _, d0, d1, d2, d3, d4, by omega⟩).now

end Go.Proofs.YtcihgepinnajjaaDoor.Pure
