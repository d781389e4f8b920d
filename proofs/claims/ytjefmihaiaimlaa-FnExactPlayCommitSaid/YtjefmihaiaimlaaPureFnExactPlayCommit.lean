/- The law FnExactPlayCommit: the program's function tells what the reference tells, for all arguments; here: of the two as plain functions of numbers and lists. -/
import Derived.Test.YtjefmihaiaimlaaQFnExactPlayCommit
namespace Go.Proofs.Ytjefmihaiaimlaa.Pure
open Go.RowKit Go.Proofs.Ytjefmihaiaimlaa.PFnExactPlayCommit Go.Proofs.YtjefmihaiaimlaaW.PrintWords Go.Proofs.YtjefmihaiaimlaaW.PrintLast Go.Proofs.YtjefmihaiaimlaaW.PrintMore
set_option linter.unusedVariables false
set_option linter.unusedSimpArgs false
set_option linter.unnecessarySimpa false

theorem w64 {i : Int} (h0 : -9223372036854775808 ≤ i) (h1 : i ≤ 9223372036854775807) : wrap64 i = i := by
  unfold wrap64
  omega

theorem rdn (l : List Int) (i : Nat) : rd l (i : Int) = l.getD i 0 := by simp [rd]

/-- A round of a loop, then what it comes to. -/
theorem ev_step {α : Type} {g f : Nat → Option α} {r : α} (k : Ev f r) (h : ∀ k, g (k + 1) = f k) : Ev g r := Ev.step h k
theorem ev_some {α : Type} {g : Nat → Option α} {r : α} (h : ∀ k, g k = some r) : Ev g r := ⟨0, fun k _ => h k⟩
theorem ev_stop {α : Type} {g : Nat → Option α} {r : α} (h : ∀ k, g (k + 1) = some r) : Ev g r := Ev.step h (Ev.now r)
theorem ev_bind {α β : Type} {g : Nat → Option α} {f : Nat → α → Option β} {a : α} {r : β} (h : Ev g a) (k : Ev (fun n => f n a) r) : Ev (fun n => (g n).bind (f n)) r := Ev.bind h k
theorem ev_some_bind {α β : Type} {g : Option α} {f : Nat → α → Option β} {a : α} {r : β} (h : g = some a) (k : Ev (fun n => f n a) r) : Ev (fun n => g.bind (f n)) r := by
  subst h
  exact k
theorem ev_ite_pos {α : Type} {c : Prop} [Decidable c] {g f : Nat → Option α} {r : α} (hc : c) (h : Ev g r) : Ev (fun n => if c then g n else f n) r := Ev.congr (fun _ => if_pos hc) h
theorem ev_ite_neg {α : Type} {c : Prop} [Decidable c] {g f : Nat → Option α} {r : α} (hc : ¬ c) (h : Ev f r) : Ev (fun n => if c then g n else f n) r := Ev.congr (fun _ => if_neg hc) h

theorem within_tells (a b c : Int) : impl_within.f a b c = some (decide (b ≤ a) && decide (a ≤ c)) := by
  unfold impl_within.f
  by_cases h : a ≥ b
  · rw [if_pos h]; simp [show b ≤ a from h]
  · rw [if_neg h]; simp [show ¬ b ≤ a from h]

theorem sin_tells (a b c : Int) : spec_l1In.f a b c = some (decide (b ≤ a) && decide (a ≤ c)) := by
  unfold spec_l1In.f
  by_cases h : a ≥ b
  · rw [if_pos h]; simp [show b ≤ a from h]
  · rw [if_neg h]; simp [show ¬ b ≤ a from h]

theorem eqints_l (l : List Int) (hl : l.length ≤ 4611686018427387904) : ∀ (d i : Nat), i + d = l.length → Ev (fun k => laws_eqIntS.l0 k l l (i : Int)) true
  | 0, i, h => ev_stop fun k => by
    rw [laws_eqIntS.l0, if_neg (by omega)]
  | d + 1, i, h => by
    have h1 : wrap64 ((i : Int) + 1) = ((i + 1 : Nat) : Int) := by rw [w64 (by omega) (by omega)]; omega
    refine ev_step (eqints_l l hl d (i + 1) (by omega)) fun k => by
      rw [laws_eqIntS.l0, if_pos (by omega), if_pos (by omega), if_pos (by omega), if_pos rfl, h1]
theorem eqints_tells (l : List Int) (hl : l.length ≤ 4611686018427387904) : Ev (fun k => laws_eqIntS.f k l l) true := by
  refine Ev.congr (g := fun k => laws_eqIntS.f k l l) (fun k => ?_) (eqints_l l hl l.length 0 (by omega))
  unfold laws_eqIntS.f
  rw [if_pos rfl]
  rfl

theorem eqCommit_tells (x y : List Int) (n : Int) (hx : x.length ≤ 4611686018427387903) (hy : y.length ≤ 4611686018427387903) : Ev (fun k => laws_eqCommit.f k x y n x y n) true := by
  unfold laws_eqCommit.f
  exact ev_bind (eqints_tells x (by omega)) (ev_ite_pos rfl (ev_bind (eqints_tells y (by omega)) (ev_ite_pos rfl (ev_ite_pos rfl (ev_some fun _ => rfl)))))

def inB (a b x : Int) : Bool := decide (a ≤ x) && decide (x ≤ b)
theorem drop_at (l : List Int) (i : Nat) (h : i < l.length) : l.drop i = l.getD i 0 :: l.drop (i + 1) := by
  rw [List.drop_eq_getElem_cons h]
  simp [List.getD, List.getElem?_eq_getElem h]
/-- What a search for a fault comes to, round by round. -/
theorem all_ends {F : Nat → Nat → Option Bool} {p : Nat → Bool} {r : Bool} {n : Nat} (stop : Ev (fun k => F k n) r) (go : ∀ i, i < n → p i = true → ∀ q, Ev (fun k => F k (i + 1)) q → Ev (fun k => F k i) q) (no : ∀ i, i < n → p i = false → Ev (fun k => F k i) false) :
    ∀ (d i : Nat), i + d = n → Ev (fun k => F k i) ((List.range' i d).all p && r)
  | 0, i, h => by
    obtain rfl : i = n := by omega
    simpa using stop
  | d + 1, i, h => by
    have ih := all_ends stop go no d (i + 1) (by omega)
    rw [List.range'_succ, List.all_cons, Bool.and_assoc]
    cases hp : p i with
    | true => simpa using go i (by omega) hp _ ih
    | false => simpa using no i (by omega) hp
theorem all_from {F : Nat → Nat → Option Bool} {p : Nat → Bool} {r : Bool} {n : Nat} (stop : Ev (fun k => F k n) r) (go : ∀ i, i < n → p i = true → ∀ q, Ev (fun k => F k (i + 1)) q → Ev (fun k => F k i) q) (no : ∀ i, i < n → p i = false → Ev (fun k => F k i) false) :
    Ev (fun k => F k 0) ((List.range n).all p && r) := by
  rw [List.range_eq_range']
  exact all_ends stop go no n 0 (by omega)
theorem next (i : Nat) (h : i < 4611686018427387904) : wrap64 ((i : Int) + 1) = ((i + 1 : Nat) : Int) := by
  rw [w64 (by omega) (by omega)]
  omega

/-- The rising numbers from m on. -/
def upFrom (m : Int) : Nat → List Int
  | 0 => []
  | n + 1 => m :: upFrom (m + 1) n
theorem upFrom_len (m : Int) : ∀ n, (upFrom m n).length = n
  | 0 => rfl
  | n + 1 => by rw [upFrom, List.length_cons, upFrom_len (m + 1) n]
theorem take_set_succ (l : List Int) (i : Nat) (m : Int) (h : i < l.length) : (l.set i m).take (i + 1) = l.take i ++ [m] := by
  rw [List.take_succ_eq_append_getElem (by simpa using h), List.take_set_of_le (Nat.le_refl i)]
  simp
theorem markInt_l : ∀ (d i : Nat) (l : List Int) (m : Int), i + d = l.length → 0 ≤ m → m + d ≤ 4611686018427387903 → l.length ≤ 4611686018427387903 → Ev (fun k => laws_markIntS.l0 k l m (i : Int)) (m + d, l.take i ++ upFrom m d)
  | 0, i, l, m, h, _, _, _ => ev_stop fun k => by
    rw [laws_markIntS.l0, if_neg (by omega), List.take_of_length_le (by omega)]
    simp [upFrom]
  | d + 1, i, l, m, h, hm, hb, hl => by
    have ih := markInt_l d (i + 1) (l.set i m) (m + 1) (by simpa using by omega) (by omega) (by omega) (by simpa using hl)
    rw [take_set_succ l i m (by omega), List.append_assoc] at ih
    have e : m + 1 + (d : Int) = m + ((d + 1 : Nat) : Int) := by omega
    rw [e] at ih
    exact ev_step ih fun k => by rw [laws_markIntS.l0, if_pos (by omega), if_pos (by omega), w64 (by omega) (by omega), next i (by omega), Int.toNat_natCast]
theorem markInt_tells (l : List Int) (m : Int) (hm : 0 ≤ m) (hb : m + l.length ≤ 4611686018427387903) : Ev (fun k => laws_markIntS.f k l m) (m + l.length, upFrom m l.length) := by
  have h := markInt_l l.length 0 l m (by omega) hm hb (by omega)
  rw [List.take_zero, List.nil_append] at h
  exact h

theorem heldInt_l (l : List Int) (hl : l.length ≤ 4611686018427387903) : ∀ (d i : Nat) (m : Int), i + d = l.length → l.drop i = upFrom m d → 0 ≤ m → m + d ≤ 4611686018427387903 → Ev (fun k => laws_heldIntS.l0 k l m (i : Int)) (m + d)
  | 0, i, m, h, _, _, _ => ev_stop fun k => by
    rw [laws_heldIntS.l0, if_neg (by omega)]
    simp
  | d + 1, i, m, h, he, hm, hb => by
    rw [drop_at l i (by omega), upFrom] at he
    injection he with e1 e2
    have ih := heldInt_l l hl d (i + 1) (m + 1) (by omega) e2 (by omega) (by omega)
    have e : m + 1 + (d : Int) = m + ((d + 1 : Nat) : Int) := by omega
    rw [e] at ih
    exact ev_step ih fun k => by rw [laws_heldIntS.l0, if_pos (by omega), if_pos (by omega), rdn, if_pos e1, w64 (by omega) (by omega), next i (by omega)]
theorem heldInt_tells (m : Int) (n : Nat) (hm : 0 ≤ m) (hb : m + n ≤ 4611686018427387903) : Ev (fun k => laws_heldIntS.f k (upFrom m n) m) (m + n) := by
  have h := heldInt_l (upFrom m n) (by rw [upFrom_len]; omega) n 0 m (by rw [upFrom_len]; omega) (by simp) hm hb
  exact h

theorem markCommit_tells (x y : List Int) (n m : Int) (hm : 0 ≤ m) (hb : m ≤ 1000000000) (hx : x.length ≤ 1048576) (hy : y.length ≤ 1048576) : Ev (fun k => laws_markCommit.f k x y n m) (m + x.length + y.length, upFrom m x.length, upFrom (m + x.length) y.length) := by
  unfold laws_markCommit.f
  exact ev_bind (markInt_tells x m (by omega) (by omega)) (ev_bind (markInt_tells y (m + x.length) (by omega) (by omega)) (ev_some fun _ => rfl))
theorem heldCommit_tells (n m : Int) (a b : Nat) (hm : 0 ≤ m) (hb : m ≤ 1000000000) (hx : a ≤ 1048576) (hy : b ≤ 1048576) : Ev (fun k => laws_heldCommit.f k (upFrom m a) (upFrom (m + a) b) n m) (m + a + b) := by
  unfold laws_heldCommit.f
  exact ev_bind (heldInt_tells m a (by omega) (by omega)) (ev_ite_neg (by omega) (ev_bind (heldInt_tells (m + a) b (by omega) (by omega)) (ev_ite_neg (by omega) (ev_some fun _ => rfl))))

/-- What holds from some number of rounds on. -/
def Evs (P : Nat → Prop) : Prop := ∃ K, ∀ k, K ≤ k → P k
theorem Evs.and {P Q : Nat → Prop} (h : Evs P) (h2 : Evs Q) : Evs (fun k => P k ∧ Q k) := by
  obtain ⟨K, hK⟩ := h
  obtain ⟨L, hL⟩ := h2
  exact ⟨max K L, fun k hk => ⟨hK k (by omega), hL k (by omega)⟩⟩
theorem Evs.of {P : Prop} (h : P) : Evs (fun _ => P) := ⟨0, fun _ _ => h⟩
theorem Evs.ev {α : Type} {g : Nat → Option α} {r : α} (h : Ev g r) : Evs (fun k => g k = some r) := h
theorem Evs.now {P : Nat → Prop} (h : Evs P) : ∃ k, P k := by
  obtain ⟨K, hK⟩ := h
  exact ⟨K, hK K (Nat.le_refl _)⟩
theorem Evs.mono {P Q : Nat → Prop} (h : Evs P) (hq : ∀ k, P k → Q k) : Evs Q := by
  obtain ⟨K, hK⟩ := h
  exact ⟨K, fun k hk => hq k (hK k hk)⟩

theorem sztalk (l : List S58) (hl : l.length ≤ maxLen) : laws_szTalkS.f l 1048576 = some (if 1048576 < (l.length : Int) then -1 else 1048576 - (l.length : Int)) := by
  have hm : maxLen ≤ 9223372036854775807 := by decide
  unfold laws_szTalkS.f
  rw [w64 (by omega) (by omega)]
  split <;> split <;> first | rfl | omega
def convTalk (x : S58) : S50 := ⟨x.f0, x.f1, x.f2⟩
theorem toTalk_l (l : List S58) (hl : l.length ≤ 4611686018427387903) : ∀ (d i : Nat) (m : List S50), m.length = l.length → i + d = l.length → m.take i = (l.map convTalk).take i → Ev (fun k => laws_toTalkS.l0 k l m (i : Int)) (l.map convTalk)
  | 0, i, m, hm, h, ht => ev_stop fun k => by
    rw [laws_toTalkS.l0, if_neg (by omega)]
    rw [List.take_of_length_le (by omega), List.take_of_length_le (by simp; omega)] at ht
    rw [ht]
  | d + 1, i, m, hm, h, ht => by
    refine ev_step (toTalk_l l hl d (i + 1) (m.set i (convTalk (l.getD i z58))) (by simpa using hm) (by omega) ?_) fun k => by
      rw [laws_toTalkS.l0, if_pos (by omega), if_pos (by omega)]
      unfold laws_toTalk.f
      rw [Option.bind_some, if_pos (by omega), next i (by omega)]
      rfl
    rw [List.take_succ_eq_append_getElem (by simp; omega), List.take_succ_eq_append_getElem (by simp; omega), List.take_set_of_le (Nat.le_refl i), ht]
    simp [List.getD, List.getElem?_eq_getElem (show i < l.length by omega)]
theorem toTalk_tells (l : List S58) (hl : l.length ≤ 1048576) : Ev (fun k => laws_toTalkS.f k l) (l.map convTalk) := by
  refine Ev.congr (g := fun k => laws_toTalkS.f k l) (fun k => ?_) (toTalk_l l (by omega) l.length 0 (List.replicate l.length z50) (by simp) (by omega) (by simp))
  unfold laws_toTalkS.f
  rw [if_pos (by omega), if_pos (by omega), Int.toNat_natCast]
  rfl
theorem eqTalk_l (l : List S50) (hl : l.length ≤ 4611686018427387903) : ∀ (d i : Nat), i + d = l.length → Ev (fun k => laws_eqTalkS.l0 k l l (i : Int)) true
  | 0, i, h => ev_stop fun k => by
    rw [laws_eqTalkS.l0, if_neg (by omega)]
  | d + 1, i, h => by
    refine ev_step (eqTalk_l l hl d (i + 1) (by omega)) fun k => by
      rw [laws_eqTalkS.l0, if_pos (by omega), if_pos (by omega), if_pos (by omega)]
      unfold laws_eqTalk.f
      simp [next i (by omega)]
theorem eqTalk_tells (l : List S50) (hl : l.length ≤ 4611686018427387903) : Ev (fun k => laws_eqTalkS.f k l l) true := by
  refine Ev.congr (g := fun k => laws_eqTalkS.f k l l) (fun k => ?_) (eqTalk_l l hl l.length 0 (by omega))
  unfold laws_eqTalkS.f
  rw [if_pos rfl]
  rfl
def upTalks (m : Int) : Nat → List S50
  | 0 => []
  | n + 1 => ⟨m, m + 1, m + 2⟩ :: upTalks (m + 3) n
theorem upTalks_len (m : Int) : ∀ n, (upTalks m n).length = n
  | 0 => rfl
  | n + 1 => by rw [upTalks, List.length_cons, upTalks_len (m + 3) n]
theorem rdTalk_set (l : List S50) (i : Nat) (v : S50) (h : i < l.length) : rd_T50 (l.set i v) i = v := by
  simp [rd_T50, List.getD, h]
theorem drop_place (l : List S50) (i : Nat) (h : i < l.length) : l.drop i = rd_T50 l i :: l.drop (i + 1) := by
  rw [List.drop_eq_getElem_cons h]
  simp [rd_T50, List.getD, List.getElem?_eq_getElem h]
theorem take_set_place (l : List S50) (i : Nat) (m : S50) (h : i < l.length) : (l.set i m).take (i + 1) = l.take i ++ [m] := by
  rw [List.take_succ_eq_append_getElem (by simpa using h), List.take_set_of_le (Nat.le_refl i)]
  simp
theorem markTalk_l : ∀ (d i : Nat) (l : List S50) (m : Int), i + d = l.length → l.length ≤ 4611686018427387903 → 0 ≤ m → m + 3 * d ≤ 4611686018427387903 → Ev (fun k => laws_markTalkS.l0 k l m (i : Int)) (m + 3 * d, l.take i ++ upTalks m d)
  | 0, i, l, m, h, _, _, _ => ev_stop fun k => by
    rw [laws_markTalkS.l0, if_neg (by omega), List.take_of_length_le (by omega)]
    simp [upTalks]
  | d + 1, i, l, m, h, hl, hm, hb => by
    have ih := markTalk_l d (i + 1) (l.set i ⟨m, m + 1, m + 2⟩) (m + 3) (by rw [List.length_set]; omega) (by rw [List.length_set]; omega) (by omega) (by omega)
    rw [take_set_place l i _ (by omega), List.append_assoc] at ih
    have e : m + 3 + 3 * (d : Int) = m + 3 * ((d + 1 : Nat) : Int) := by omega
    rw [e] at ih
    exact ev_step ih fun k => by
      rw [laws_markTalkS.l0, if_pos (by omega), if_pos (by omega)]
      simp only [Option.bind_some, Int.toNat_natCast]
      rw [rdTalk_set _ _ _ (by omega)]
      rw [rdTalk_set _ _ _ (by rw [List.length_set]; omega)]
      simp only [List.set_set]
      rw [w64 (i := m + 1) (by omega) (by omega), w64 (i := m + 1 + 1) (by omega) (by omega), w64 (i := m + 1 + 1 + 1) (by omega) (by omega), next i (by omega), show m + 1 + 1 + 1 = m + 3 by omega, show m + 1 + 1 = m + 2 by omega]
theorem markTalk_tells (l : List S50) (m : Int) (hm : 0 ≤ m) (hb : m ≤ 1000000000) (hl : l.length ≤ 1048576) : Ev (fun k => laws_markTalkS.f k l m) (m + 3 * l.length, upTalks m l.length) := by
  have h := markTalk_l l.length 0 l m (by omega) (by omega) (by omega) (by omega)
  rw [List.take_zero, List.nil_append] at h
  exact h

def upBools (m : Int) : Nat → List Bool
  | 0 => []
  | n + 1 => (Int.tmod m 3 == 0) :: upBools (m + 1) n
theorem upBools_len (m : Int) : ∀ n, (upBools m n).length = n
  | 0 => rfl
  | n + 1 => by rw [upBools, List.length_cons, upBools_len (m + 1) n]
theorem take_set_bool (l : List Bool) (i : Nat) (m : Bool) (h : i < l.length) : (l.set i m).take (i + 1) = l.take i ++ [m] := by
  rw [List.take_succ_eq_append_getElem (by simpa using h), List.take_set_of_le (Nat.le_refl i)]
  simp
theorem markBool_l : ∀ (d i : Nat) (l : List Bool) (m : Int), i + d = l.length → l.length ≤ 4611686018427387903 → 0 ≤ m → m + d ≤ 4611686018427387903 → Ev (fun k => laws_markBoolS.l0 k l m (i : Int)) (m + d, l.take i ++ upBools m d)
  | 0, i, l, m, h, _, _, _ => ev_stop fun k => by
    rw [laws_markBoolS.l0, if_neg (by omega), List.take_of_length_le (by omega)]
    simp [upBools]
  | d + 1, i, l, m, h, hl, hm, hb => by
    have ih := markBool_l d (i + 1) (l.set i (Int.tmod m 3 == 0)) (m + 1) (by rw [List.length_set]; omega) (by rw [List.length_set]; omega) (by omega) (by omega)
    rw [take_set_bool l i _ (by omega), List.append_assoc] at ih
    have e : m + 1 + (d : Int) = m + ((d + 1 : Nat) : Int) := by omega
    rw [e] at ih
    exact ev_step ih fun k => by
      rw [laws_markBoolS.l0, if_pos (by omega), if_pos (by omega), Int.toNat_natCast, w64 (i := m + 1) (by omega) (by omega), next i (by omega)]
theorem markBool_tells (l : List Bool) (m : Int) (hm : 0 ≤ m) (hb : m ≤ 1000000000) (hl : l.length ≤ 1048576) : Ev (fun k => laws_markBoolS.f k l m) (m + l.length, upBools m l.length) := by
  have h := markBool_l l.length 0 l m (by omega) (by omega) (by omega) (by omega)
  rw [List.take_zero, List.nil_append] at h
  exact h
theorem drop_bool (l : List Bool) (i : Nat) (h : i < l.length) : l.drop i = rdOf false l (i : Int) :: l.drop (i + 1) := by
  rw [List.drop_eq_getElem_cons h]
  simp [rdOf, List.getD, List.getElem?_eq_getElem h]
theorem heldBool_l (l : List Bool) (hl : l.length ≤ 4611686018427387903) : ∀ (d i : Nat) (m : Int), i + d = l.length → l.drop i = upBools m d → 0 ≤ m → m + d ≤ 4611686018427387903 → Ev (fun k => laws_heldBoolS.l0 k l m (i : Int)) (m + d)
  | 0, i, m, h, _, _, _ => ev_stop fun k => by
    rw [laws_heldBoolS.l0, if_neg (by omega)]
    simp
  | d + 1, i, m, h, he, hm, hb => by
    rw [drop_bool l i (by omega), upBools] at he
    injection he with e1 e2
    have ih := heldBool_l l hl d (i + 1) (m + 1) (by omega) e2 (by omega) (by omega)
    have e : m + 1 + (d : Int) = m + ((d + 1 : Nat) : Int) := by omega
    rw [e] at ih
    exact ev_step ih fun k => by
      rw [laws_heldBoolS.l0, if_pos (by omega), if_pos (by omega), e1, if_neg (by simp), w64 (i := m + 1) (by omega) (by omega), next i (by omega)]
theorem heldBool_tells (m : Int) (n : Nat) (hm : 0 ≤ m) (hb : m ≤ 1000000000) (hn : n ≤ 1048576) : Ev (fun k => laws_heldBoolS.f k (upBools m n) m) (m + n) := by
  have h := heldBool_l (upBools m n) (by rw [upBools_len]; omega) n 0 m (by rw [upBools_len]; omega) (by simp) hm (by omega)
  exact h
theorem eqBool_l (l : List Bool) (hl : l.length ≤ 4611686018427387903) : ∀ (d i : Nat), i + d = l.length → Ev (fun k => laws_eqBoolS.l0 k l l (i : Int)) true
  | 0, i, h => ev_stop fun k => by
    rw [laws_eqBoolS.l0, if_neg (by omega)]
  | d + 1, i, h => by
    refine ev_step (eqBool_l l hl d (i + 1) (by omega)) fun k => by
      rw [laws_eqBoolS.l0, if_pos (by omega), if_pos (by omega), if_pos (by omega)]
      simp [next i (by omega)]
theorem eqBool_tells (l : List Bool) (hl : l.length ≤ 4611686018427387903) : Ev (fun k => laws_eqBoolS.f k l l) true := by
  refine Ev.congr (g := fun k => laws_eqBoolS.f k l l) (fun k => ?_) (eqBool_l l hl l.length 0 (by omega))
  unfold laws_eqBoolS.f
  rw [if_pos rfl]
  rfl

theorem own_tells (x y : List Int) (n : Int) (hx : x.length ≤ 5) (hy : y.length ≤ 5) : spec_l16Own.f x y n = some (x, y, n) := by
  unfold spec_l16Own.f
  simp only [Option.bind_some, List.nil_append, List.length_nil, Nat.zero_add]
  rw [if_pos (by omega), if_pos (by omega)]
theorem stepR_no (x y : List Int) (q kind part other : Int) (h : (stepR x y q kind part other).2.2.2 = false) : stepR x y q kind part other = (x, y, q, false) := by
  unfold stepR at h ⊢
  by_cases hp : (decide ((0 : Int) ≤ part) && decide (part ≤ (x.length : Int) - 1)) = true
  · rw [if_pos hp] at h ⊢
    by_cases k5 : kind = 5
    · rw [if_pos k5] at h ⊢
      repeat' split at h
      all_goals first | (simp only [*, if_true, if_false]; done) | (simp at h; done) | (simp [*]; done)
    · rw [if_neg k5] at h ⊢
      by_cases hz : other = 0
      · rw [if_pos hz] at h ⊢
        by_cases k1 : kind = 1
        · rw [if_pos k1] at h ⊢
          by_cases p0 : rd x part = 0
          · rw [if_pos p0] at h ⊢
            by_cases hq : q = 0
            · rw [if_pos hq] at h
              simp at h
            · rw [if_neg hq]
          · rw [if_neg p0]
        · rw [if_neg k1] at h ⊢
          by_cases k2 : kind = 2
          · rw [if_pos k2] at h ⊢
            by_cases p0 : rd x part = 0
            · rw [if_pos p0] at h ⊢
              by_cases hq : q = 1
              · rw [if_pos hq]
              · rw [if_neg hq] at h
                simp at h
            · rw [if_neg p0]
          · rw [if_neg k2] at h ⊢
            by_cases k3 : kind = 3
            · rw [if_pos k3] at h ⊢
              by_cases hp0 : part = 0
              · rw [if_pos hp0] at h ⊢
                have hq : q ≠ 0 := by simpa using h
                rw [show decW y q = q from if_neg hq, decide_eq_false hq]
              · rw [if_neg hp0]
            · rw [if_neg k3] at h ⊢
              by_cases k4 : kind = 4
              · rw [if_pos k4] at h ⊢
                unfold tellB at h
                have h2 : (overB (rd x part) || decide (q = 0)) = true := by
                  cases hb : (overB (rd x part) || decide (q = 0)) with
                  | true => rfl
                  | false => rw [hb] at h; exact absurd h (by simp)
                unfold tellP tellB
                rw [if_pos h2, h2]
                rfl
              · rw [if_neg k4]
      · rw [if_neg hz]
  · rw [if_neg hp]
theorem stepR_word (x y : List Int) (q kind part other : Int) (hq : q = 0 ∨ q = 1 ∨ q = 2) : (stepR x y q kind part other).2.2.1 = 0 ∨ (stepR x y q kind part other).2.2.1 = 1 ∨ (stepR x y q kind part other).2.2.1 = 2 := by
  have hd : decW y q = 0 ∨ decW y q = 1 ∨ decW y q = 2 := by
    rcases decW_int y q with h | h | h <;> omega
  unfold stepR
  repeat' split
  all_goals first | exact hq | exact hd
theorem play_from (N : Nat) (h1 : 1 ≤ N) (h5 : N ≤ 5) (l : List S50) (hl : l.length ≤ 40) : ∀ (d : Nat) (i : Int) (x y : List Int) (q : Int) (ds : List Bool), 0 ≤ i → i + d = l.length → x.length = N → y.length = N → (q = 0 ∨ q = 1 ∨ q = 2) → (ds.length : Int) = i → ∀ k, d < k → spec_PlayCommit.l0 k ds l (l.length : Int) i x y q = some (playR (l.drop i.toNat) x y q ds)
  | 0, i, x, y, q, ds, h0, h, hx, hy, hq, hd, k, hk => by
    obtain ⟨k, rfl⟩ : ∃ m, k = m + 1 := ⟨k - 1, by omega⟩
    rw [spec_PlayCommit.l0, if_neg (by omega), own_tells x y q (by omega) (by omega), List.drop_of_length_le (by omega)]
    rfl
  | d + 1, i, x, y, q, ds, h0, h, hx, hy, hq, hd, k, hk => by
    obtain ⟨k, rfl⟩ : ∃ m, k = m + 1 := ⟨k - 1, by omega⟩
    have hs : ∀ a b c, spec_l16Step.f x y q a b c = some (stepR x y q a b c) := fun a b c => by
      unfold spec_l16Step.f
      rw [if_pos (by omega), if_pos (by omega), if_pos (by omega), if_pos hq]
    have hw : wrap64 (i + 1) = i + 1 := w64 (by omega) (by omega)
    rw [spec_PlayCommit.l0, if_pos (by omega), if_pos (by omega), if_pos (by omega), own_tells x y q (by omega) (by omega), Option.bind_some, hs, Option.bind_some, play_next l i h0 (by omega), playR, hw]
    generalize rd_T50 l i = t
    have hlen := stepR_len x y q t.f0 t.f1 t.f2
    have hword := stepR_word x y q t.f0 t.f1 t.f2 hq
    have hno := stepR_no x y q t.f0 t.f1 t.f2
    generalize stepR x y q t.f0 t.f1 t.f2 = s at hlen hword hno
    obtain ⟨s0, s1, sq, sb⟩ := s
    simp only at hlen hword hno ⊢
    cases sb with
    | true =>
      rw [if_pos rfl, if_pos (by omega)]
      exact play_from N h1 h5 l hl d (i + 1) s0 s1 sq (ds ++ [true]) (by omega) (by omega) (by omega) (by omega) hword (by rw [List.length_append, List.length_singleton]; omega) k (by omega)
    | false =>
      have he := hno rfl
      simp only [Prod.mk.injEq] at he
      obtain ⟨rfl, rfl, rfl, _⟩ := he
      rw [if_neg (by decide), if_pos (by omega)]
      exact play_from N h1 h5 l hl d (i + 1) s0 s1 sq (ds ++ [false]) (by omega) (by omega) (by omega) (by omega) hq (by rw [List.length_append, List.length_singleton]; omega) k (by omega)
theorem playR_len : ∀ (l : List S50) (x y : List Int) (q : Int) (ds : List Bool), (playR l x y q ds).1.length = x.length ∧ (playR l x y q ds).2.1.length = y.length ∧ (playR l x y q ds).2.2.2.1.length = ds.length + l.length
  | [], x, y, q, ds => ⟨rfl, rfl, rfl⟩
  | t :: ts, x, y, q, ds => by
    have h := stepR_len x y q t.f0 t.f1 t.f2
    have ih := playR_len ts (stepR x y q t.f0 t.f1 t.f2).1 (stepR x y q t.f0 t.f1 t.f2).2.1 (stepR x y q t.f0 t.f1 t.f2).2.2.1 (ds ++ [(stepR x y q t.f0 t.f1 t.f2).2.2.2])
    rw [playR]
    rw [List.length_append, List.length_singleton] at ih
    refine ⟨ih.1.trans h.1, ih.2.1.trans h.2, ih.2.2.trans ?_⟩
    rw [List.length_cons]
    omega
theorem play_same (n : Int) (l : List S50) : ∃ (a b : List Int) (c : Int) (ds : List Bool) (o : Bool), Ev (fun k => spec_PlayCommit.f k n l) (a, b, c, ds, o) ∧ impl_PlayCommit.f n l = some (a, b, c, ds, o) ∧ a.length ≤ 5 ∧ b.length ≤ 5 ∧ ds.length ≤ 40 := by
  unfold spec_PlayCommit.f impl_PlayCommit.f spec_NewCommit.f impl_NewCommit.f
  rw [sin_tells, within_tells]
  simp only [Option.bind_some]
  cases h : (decide (1 ≤ n) && decide (n ≤ 5)) with
  | false =>
    refine ⟨[], [], 0, [], false, ?_, rfl, by simp, by simp, by simp⟩
    refine Ev.congr (g := fun k => spec_PlayCommit.j0 k l true [] [] 0) (fun k => rfl) ?_
    exact ev_stop fun k => by rw [spec_PlayCommit.j0, if_pos rfl]
  | true =>
    simp only [Bool.and_eq_true, decide_eq_true_eq] at h
    obtain ⟨h1, h2⟩ := h
    have c0 : (0 ≤ n) := by omega
    have c1 : n.toNat ≤ 35184372088832 := by omega
    simp only [if_true, if_pos c0, if_pos c1, Option.bind_some]
    by_cases hl : (l.length : Int) > 40
    · refine ⟨[], [], 0, [], false, ?_, by rw [if_pos hl], by simp, by simp, by simp⟩
      rw [decide_eq_true hl]
      exact ev_stop fun k => by rw [spec_PlayCommit.j0, if_pos rfl]
    · rw [decide_eq_false hl, if_neg hl]
      have hN : (List.replicate n.toNat (0 : Int)).length = n.toNat := by simp
      have hp := play_from n.toNat (by omega) (by omega) l (by omega) l.length 0 (List.replicate n.toNat 0) (List.replicate n.toNat 0) 0 [] (by omega) (by omega) hN hN (.inl rfl) rfl
      have hlen := playR_len l (List.replicate n.toNat 0) (List.replicate n.toNat 0) 0 []
      rw [hN] at hlen
      try rw [if_pos (by omega), if_pos (by omega)]
      try rw [if_pos rfl]
      rw [Int.toNat_zero, List.drop_zero] at hp
      generalize playR l (List.replicate n.toNat 0) (List.replicate n.toNat 0) 0 [] = s at hp hlen
      obtain ⟨a, b, c, ds, o⟩ := s
      simp only [List.length_nil, Nat.zero_add] at hlen
      refine ⟨a, b, c, ds, o, ?_, rfl, by omega, by omega, by omega⟩
      refine Ev.step (fun k => by rw [spec_PlayCommit.j0, if_neg (by decide)]) ?_
      exact ⟨l.length + 1, fun k hk => hp k (by omega)⟩
theorem FnExactPlayCommit : laws_FnExactPlayCommit.Good := by
  rintro n l0 _ ⟨hm, _⟩
  unfold laws_FnExactPlayCommit.Pass
  have hz := sztalk l0 hm
  by_cases hg : 1048576 < (l0.length : Int)
  · rw [if_pos hg] at hz
    exact ⟨0, -1, hz, .inl (by decide)⟩
  rw [if_neg hg] at hz
  have hT := toTalk_tells l0 (by omega)
  have hl : (l0.map convTalk).length ≤ 1048576 := by simp; omega
  generalize l0.map convTalk = t at hT hl
  obtain ⟨a, b, c, ds, o, hs, hi, ha, hb, hd⟩ := play_same n t
  have m0 := markTalk_tells t 1 (by omega) (by omega) hl
  have m1 := markCommit_tells a b c 1 (by omega) (by omega) (by omega) (by omega)
  have m2 := markBool_tells ds (1 + a.length + b.length) (by omega) (by omega) (by omega)
  have hh := heldCommit_tells c 1 a.length b.length (by omega) (by omega) (by omega) (by omega)
  have hh2 := heldBool_tells (1 + a.length + b.length) ds.length (by omega) (by omega) (by omega)
  exact (((Evs.ev hT).and ((Evs.ev hs).and ((Evs.ev (eqCommit_tells a b c (by omega) (by omega))).and ((Evs.ev (eqBool_tells ds (by omega))).and ((Evs.ev (eqTalk_tells t (by omega))).and ((Evs.ev m0).and ((Evs.ev m1).and ((Evs.ev m2).and ((Evs.ev hh).and (Evs.ev hh2)))))))))).mono fun k ⟨d0, d1, d3, d4, d5, d6, d7, d8, d9, d10⟩ => ⟨_, hz, .inr ⟨by omega, t, a, b, c, ds, o, _, _, _, _, _, _, _, d0, d1, hi, d3, d4, d5, d6, d7, d8, d9, d10, by omega, by omega, by omega⟩⟩).now

end Go.Proofs.Ytjefmihaiaimlaa.Pure
