/- The law FnExactNewPlaces: the program's function tells what the reference tells, for all arguments; here: of the two as plain functions of numbers and lists. -/
import Derived.Test.YtlabpbkeaelecaaQFnExactNewPlaces
namespace Go.Proofs.Ytlabpbkeaelecaa.Pure
open Go.RowKit Go.Proofs.Ytlabpbkeaelecaa.PFnExactNewPlaces Go.Proofs.YtlabpbkeaelecaaW.PrintWords Go.Proofs.YtlabpbkeaelecaaW.PrintLast Go.Proofs.YtlabpbkeaelecaaW.PrintMore
set_option linter.unusedVariables false
set_option linter.unusedSimpArgs false

theorem w64 {i : Int} (h0 : -9223372036854775808 ≤ i) (h1 : i ≤ 9223372036854775807) : wrap64 i = i := by
  unfold wrap64
  omega

theorem rdn (l : List Int) (i : Nat) : rd l (i : Int) = l.getD i 0 := by simp [rd]

/-- A round of a loop, then what it comes to. -/
theorem ev_step {α : Type} {g f : Nat → Option α} {r : α} (k : Ev f r) (h : ∀ k, g (k + 1) = f k) : Ev g r := Ev.step h k
theorem ev_some {α : Type} {g : Nat → Option α} {r : α} (h : ∀ k, g k = some r) : Ev g r := ⟨0, fun k _ => h k⟩
theorem ev_stop {α : Type} {g : Nat → Option α} {r : α} (h : ∀ k, g (k + 1) = some r) : Ev g r := Ev.step h (Ev.now r)
theorem ev_bind {α β : Type} {g : Nat → Option α} {f : Nat → α → Option β} {a : α} {r : β} (h : Ev g a) (k : Ev (fun n => f n a) r) : Ev (fun n => (g n).bind (f n)) r := Ev.bind h k
theorem ev_some_bind {α β : Type} {g : Option α} {f : Nat → α → Option β} {a : α} {r : β} (h : g = some a) (k : Ev (fun n => f n a) r) : Ev (fun n => g.bind (f n)) r := by
  subst h
  exact k
theorem ev_ite_pos {α : Type} {c : Prop} [Decidable c] {g f : Nat → Option α} {r : α} (hc : c) (h : Ev g r) : Ev (fun n => if c then g n else f n) r := Ev.congr (fun _ => if_pos hc) h
theorem ev_ite_neg {α : Type} {c : Prop} [Decidable c] {g f : Nat → Option α} {r : α} (hc : ¬ c) (h : Ev f r) : Ev (fun n => if c then g n else f n) r := Ev.congr (fun _ => if_neg hc) h

theorem within_tells (a b c : Int) : impl_within.f a b c = some (decide (b ≤ a) && decide (a ≤ c)) := by
  unfold impl_within.f
  by_cases h : a ≥ b
  · rw [if_pos h]; simp [show b ≤ a from h]
  · rw [if_neg h]; simp [show ¬ b ≤ a from h]

theorem sin_tells (a b c : Int) : spec_l1In.f a b c = some (decide (b ≤ a) && decide (a ≤ c)) := by
  unfold spec_l1In.f
  by_cases h : a ≥ b
  · rw [if_pos h]; simp [show b ≤ a from h]
  · rw [if_neg h]; simp [show ¬ b ≤ a from h]

def manyB (n : Int) : Bool := (decide (3 ≤ n) && decide (n ≤ 9)) && (Int.tmod n 2 == 1)
theorem many_tells (n : Int) : impl_isMany.f n = some (manyB n) := by
  unfold impl_isMany.f manyB
  rw [within_tells, Option.bind_some]
  cases (decide (3 ≤ n) && decide (n ≤ 9)) <;> simp
theorem smany_tells (n : Int) : spec_l11Places.f n = some (manyB n) := by
  unfold spec_l11Places.f manyB
  rw [sin_tells, Option.bind_some]
  cases (decide (3 ≤ n) && decide (n ≤ 9)) <;> simp
theorem many_bd {n : Int} (h : manyB n = true) : 3 ≤ n ∧ n ≤ 9 := by
  unfold manyB at h
  simp only [Bool.and_eq_true, decide_eq_true_eq] at h
  omega

def inB (a b x : Int) : Bool := decide (a ≤ x) && decide (x ≤ b)
theorem drop_at (l : List Int) (i : Nat) (h : i < l.length) : l.drop i = l.getD i 0 :: l.drop (i + 1) := by
  rw [List.drop_eq_getElem_cons h]
  simp [List.getD, List.getElem?_eq_getElem h]
/-- What a search for a fault comes to, round by round. -/
theorem all_ends {F : Nat → Nat → Option Bool} {p : Nat → Bool} {r : Bool} {n : Nat} (stop : Ev (fun k => F k n) r) (go : ∀ i, i < n → p i = true → ∀ q, Ev (fun k => F k (i + 1)) q → Ev (fun k => F k i) q) (no : ∀ i, i < n → p i = false → Ev (fun k => F k i) false) :
    ∀ (d i : Nat), i + d = n → Ev (fun k => F k i) ((List.range' i d).all p && r)
  | 0, i, h => by
    obtain rfl : i = n := by omega
    simpa using stop
  | d + 1, i, h => by
    have ih := all_ends stop go no d (i + 1) (by omega)
    rw [List.range'_succ, List.all_cons, Bool.and_assoc]
    cases hp : p i with
    | true => simpa using go i (by omega) hp _ ih
    | false => simpa using no i (by omega) hp
theorem all_from {F : Nat → Nat → Option Bool} {p : Nat → Bool} {r : Bool} {n : Nat} (stop : Ev (fun k => F k n) r) (go : ∀ i, i < n → p i = true → ∀ q, Ev (fun k => F k (i + 1)) q → Ev (fun k => F k i) q) (no : ∀ i, i < n → p i = false → Ev (fun k => F k i) false) :
    Ev (fun k => F k 0) ((List.range n).all p && r) := by
  rw [List.range_eq_range']
  exact all_ends stop go no n 0 (by omega)
theorem next (i : Nat) (h : i < 4611686018427387904) : wrap64 ((i : Int) + 1) = ((i + 1 : Nat) : Int) := by
  rw [w64 (by omega) (by omega)]
  omega

theorem eqPlace_l (l : List S111) (hl : l.length ≤ 4611686018427387903) : ∀ (d i : Nat), i + d = l.length → Ev (fun k => laws_eqPlaceS.l0 k l l (i : Int)) true
  | 0, i, h => ev_stop fun k => by
    rw [laws_eqPlaceS.l0, if_neg (by omega)]
  | d + 1, i, h => by
    refine ev_step (eqPlace_l l hl d (i + 1) (by omega)) fun k => by
      rw [laws_eqPlaceS.l0, if_pos (by omega), if_pos (by omega), if_pos (by omega)]
      unfold laws_eqPlace.f
      simp [next i (by omega)]
theorem eqPlace_tells (l : List S111) (hl : l.length ≤ 4611686018427387903) : Ev (fun k => laws_eqPlaceS.f k l l) true := by
  refine Ev.congr (g := fun k => laws_eqPlaceS.f k l l) (fun k => ?_) (eqPlace_l l hl l.length 0 (by omega))
  unfold laws_eqPlaceS.f
  rw [if_pos rfl]
  rfl

def upPlaces (m : Int) : Nat → List S111
  | 0 => []
  | n + 1 => ⟨m, m + 1, m + 2⟩ :: upPlaces (m + 3) n
theorem upPlaces_len (m : Int) : ∀ n, (upPlaces m n).length = n
  | 0 => rfl
  | n + 1 => by rw [upPlaces, List.length_cons, upPlaces_len (m + 3) n]
theorem rdPlace_set (l : List S111) (i : Nat) (v : S111) (h : i < l.length) : rd_T111 (l.set i v) i = v := by
  simp [rd_T111, List.getD, h]
theorem drop_place (l : List S111) (i : Nat) (h : i < l.length) : l.drop i = rd_T111 l i :: l.drop (i + 1) := by
  rw [List.drop_eq_getElem_cons h]
  simp [rd_T111, List.getD, List.getElem?_eq_getElem h]
theorem take_set_place (l : List S111) (i : Nat) (m : S111) (h : i < l.length) : (l.set i m).take (i + 1) = l.take i ++ [m] := by
  rw [List.take_succ_eq_append_getElem (by simpa using h), List.take_set_of_le (Nat.le_refl i)]
  simp
theorem markPlace_l : ∀ (d i : Nat) (l : List S111) (m : Int), i + d = l.length → l.length ≤ 4611686018427387903 → 0 ≤ m → m + 3 * d ≤ 4611686018427387903 → Ev (fun k => laws_markPlaceS.l0 k l m (i : Int)) (m + 3 * d, l.take i ++ upPlaces m d)
  | 0, i, l, m, h, _, _, _ => ev_stop fun k => by
    rw [laws_markPlaceS.l0, if_neg (by omega), List.take_of_length_le (by omega)]
    simp [upPlaces]
  | d + 1, i, l, m, h, hl, hm, hb => by
    have ih := markPlace_l d (i + 1) (l.set i ⟨m, m + 1, m + 2⟩) (m + 3) (by rw [List.length_set]; omega) (by rw [List.length_set]; omega) (by omega) (by omega)
    rw [take_set_place l i _ (by omega), List.append_assoc] at ih
    have e : m + 3 + 3 * (d : Int) = m + 3 * ((d + 1 : Nat) : Int) := by omega
    rw [e] at ih
    exact ev_step ih fun k => by
      rw [laws_markPlaceS.l0, if_pos (by omega), if_pos (by omega)]
      simp only [Option.bind_some, Int.toNat_natCast]
      rw [rdPlace_set _ _ _ (by omega)]
      rw [rdPlace_set _ _ _ (by rw [List.length_set]; omega)]
      simp only [List.set_set]
      rw [w64 (i := m + 1) (by omega) (by omega), w64 (i := m + 1 + 1) (by omega) (by omega), w64 (i := m + 1 + 1 + 1) (by omega) (by omega), next i (by omega), show m + 1 + 1 + 1 = m + 3 by omega, show m + 1 + 1 = m + 2 by omega]
theorem markPlace_tells (l : List S111) (m : Int) (hm : 0 ≤ m) (hb : m ≤ 1000000000) (hl : l.length ≤ 1048576) : Ev (fun k => laws_markPlaceS.f k l m) (m + 3 * l.length, upPlaces m l.length) := by
  have h := markPlace_l l.length 0 l m (by omega) (by omega) (by omega) (by omega)
  rw [List.take_zero, List.nil_append] at h
  exact h
theorem heldPlace_l (l : List S111) (hl : l.length ≤ 4611686018427387903) : ∀ (d i : Nat) (m : Int), i + d = l.length → l.drop i = upPlaces m d → 0 ≤ m → m + 3 * d ≤ 4611686018427387903 → Ev (fun k => laws_heldPlaceS.l0 k l m (i : Int)) (m + 3 * d)
  | 0, i, m, h, _, _, _ => ev_stop fun k => by
    rw [laws_heldPlaceS.l0, if_neg (by omega)]
    simp
  | d + 1, i, m, h, he, hm, hb => by
    rw [drop_place l i (by omega), upPlaces] at he
    injection he with e1 e2
    have ih := heldPlace_l l hl d (i + 1) (m + 3) (by omega) e2 (by omega) (by omega)
    have e : m + 3 + 3 * (d : Int) = m + 3 * ((d + 1 : Nat) : Int) := by omega
    rw [e] at ih
    exact ev_step ih fun k => by
      rw [laws_heldPlaceS.l0, if_pos (by omega), if_pos (by omega), e1, if_pos rfl, w64 (i := m + 1) (by omega) (by omega), if_pos rfl, w64 (i := m + 1 + 1) (by omega) (by omega), if_pos (show m + 2 = m + 1 + 1 by omega), w64 (i := m + 1 + 1 + 1) (by omega) (by omega), next i (by omega), show m + 1 + 1 + 1 = m + 3 by omega]
theorem heldPlace_tells (m : Int) (n : Nat) (hm : 0 ≤ m) (hb : m ≤ 1000000000) (hn : n ≤ 1048576) : Ev (fun k => laws_heldPlaceS.f k (upPlaces m n) m) (m + 3 * n) := by
  have h := heldPlace_l (upPlaces m n) (by rw [upPlaces_len]; omega) n 0 m (by rw [upPlaces_len]; omega) (by simp) hm (by omega)
  exact h

theorem newPlaces_same (n : Int) : ∃ (x : List S111) (b : Bool), spec_NewPlaces.f n = some (x, b) ∧ impl_NewPlaces.f n = some (x, b) ∧ x.length ≤ 9 := by
  unfold spec_NewPlaces.f impl_NewPlaces.f
  rw [smany_tells, many_tells, Option.bind_some]
  cases h : manyB n with
  | false => exact ⟨[], false, by simp, by simp, by simp⟩
  | true =>
    obtain ⟨h1, h2⟩ := many_bd h
    refine ⟨List.replicate n.toNat z111, true, ?_, ?_, by simp; omega⟩
    · rw [if_pos rfl, if_pos (by omega), if_pos (by omega)]
    · rw [if_pos rfl, if_pos (by omega), if_pos (by omega)]
theorem FnExactNewPlaces : laws_FnExactNewPlaces.Good := by
  intro a0 _
  refine Ev.rounds ?_
  obtain ⟨x, b, hs, hi, hx⟩ := newPlaces_same a0
  have ex := eqPlace_tells x (by omega)
  have m := markPlace_tells x 1 (by omega) (by omega) (by omega)
  have h := heldPlace_tells 1 x.length (by omega) (by omega) (by omega)
  unfold laws_FnExactNewPlaces.f
  refine ev_some_bind hs (ev_some_bind hi (ev_bind ex (ev_ite_pos rfl ?_)))
  refine Ev.step (fun k => by rw [laws_FnExactNewPlaces.j0]) ?_
  refine ev_ite_neg (by simp) (ev_bind m (ev_bind h (ev_ite_neg (by omega) (ev_ite_pos rfl (ev_some_bind hi (ev_bind ex (ev_ite_pos rfl ?_)))))))
  refine Ev.step (fun k => by rw [laws_FnExactNewPlaces.j1]) ?_
  exact ev_ite_neg (by simp) (ev_bind h (ev_ite_neg (by omega) (ev_ite_pos rfl (ev_some fun _ => rfl))))

end Go.Proofs.Ytlabpbkeaelecaa.Pure
