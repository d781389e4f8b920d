/- The law FnExactMeetAll: the program's function tells what the reference tells, for all arguments; here: of the two as plain functions of numbers and lists. -/
import Derived.Test.YtlabpbkeaelecaaQFnExactMeetAll
namespace Go.Proofs.Ytlabpbkeaelecaa.Pure
open Go.RowKit Go.Proofs.Ytlabpbkeaelecaa.PFnExactMeetAll Go.Proofs.YtlabpbkeaelecaaW.PrintWords Go.Proofs.YtlabpbkeaelecaaW.PrintLast Go.Proofs.YtlabpbkeaelecaaW.PrintMore
set_option linter.unusedVariables false
set_option linter.unusedSimpArgs false
set_option linter.unnecessarySimpa false

theorem sin_tells (a b c : Int) : spec_l1In.f a b c = some (decide (b ≤ a) && decide (a ≤ c)) := by
  unfold spec_l1In.f
  by_cases h : a ≥ b
  · rw [if_pos h]; simp [show b ≤ a from h]
  · rw [if_neg h]; simp [show ¬ b ≤ a from h]

def manyB (n : Int) : Bool := (decide (3 ≤ n) && decide (n ≤ 9)) && (Int.tmod n 2 == 1)
theorem many_tells (n : Int) : impl_isMany.f n = some (manyB n) := by
  unfold impl_isMany.f manyB
  rw [within_tells, Option.bind_some]
  cases (decide (3 ≤ n) && decide (n ≤ 9)) <;> simp
theorem smany_tells (n : Int) : spec_l11Places.f n = some (manyB n) := by
  unfold spec_l11Places.f manyB
  rw [sin_tells, Option.bind_some]
  cases (decide (3 ≤ n) && decide (n ≤ 9)) <;> simp
theorem many_bd {n : Int} (h : manyB n = true) : 3 ≤ n ∧ n ≤ 9 := by
  unfold manyB at h
  simp only [Bool.and_eq_true, decide_eq_true_eq] at h
  omega

theorem rise_same : ∀ (k : Nat) (x0 : List Int) (x1 x2 : Int) (x9 : List Int) (x10 x11 : Int), spec_l1Rising.l0 k x0 x1 x2 x9 x10 x11 = impl_isRising.l0 k x0 x1 x2 x9 x10 x11
  | 0, _, _, _, _, _, _ => rfl
  | k + 1, x0, x1, x2, x9, x10, x11 => by
    rw [spec_l1Rising.l0, impl_isRising.l0]
    simp only [rise_same k]
    rfl
theorem srise_tells (l : List Int) (a b : Int) (hl : l.length ≤ 4611686018427387904) : Ev (fun k => spec_l1Rising.f k l a b) (riseB l a b) :=
  Ev.congr (fun k => rise_same k _ _ _ _ _ _) (rise_tells l a b hl)

def inB (a b x : Int) : Bool := decide (a ≤ x) && decide (x ≤ b)
theorem drop_at (l : List Int) (i : Nat) (h : i < l.length) : l.drop i = l.getD i 0 :: l.drop (i + 1) := by
  rw [List.drop_eq_getElem_cons h]
  simp [List.getD, List.getElem?_eq_getElem h]
/-- What a search for a fault comes to, round by round. -/
theorem all_ends {F : Nat → Nat → Option Bool} {p : Nat → Bool} {r : Bool} {n : Nat} (stop : Ev (fun k => F k n) r) (go : ∀ i, i < n → p i = true → ∀ q, Ev (fun k => F k (i + 1)) q → Ev (fun k => F k i) q) (no : ∀ i, i < n → p i = false → Ev (fun k => F k i) false) :
    ∀ (d i : Nat), i + d = n → Ev (fun k => F k i) ((List.range' i d).all p && r)
  | 0, i, h => by
    obtain rfl : i = n := by omega
    simpa using stop
  | d + 1, i, h => by
    have ih := all_ends stop go no d (i + 1) (by omega)
    rw [List.range'_succ, List.all_cons, Bool.and_assoc]
    cases hp : p i with
    | true => simpa using go i (by omega) hp _ ih
    | false => simpa using no i (by omega) hp
theorem all_from {F : Nat → Nat → Option Bool} {p : Nat → Bool} {r : Bool} {n : Nat} (stop : Ev (fun k => F k n) r) (go : ∀ i, i < n → p i = true → ∀ q, Ev (fun k => F k (i + 1)) q → Ev (fun k => F k i) q) (no : ∀ i, i < n → p i = false → Ev (fun k => F k i) false) :
    Ev (fun k => F k 0) ((List.range n).all p && r) := by
  rw [List.range_eq_range']
  exact all_ends stop go no n 0 (by omega)
theorem next (i : Nat) (h : i < 4611686018427387904) : wrap64 ((i : Int) + 1) = ((i + 1 : Nat) : Int) := by
  rw [w64 (by omega) (by omega)]
  omega

theorem has_l (l : List Int) (x : Int) (hl : l.length ≤ 4611686018427387903) : ∀ (d i : Nat), i + d = l.length → Ev (fun k => spec_l1Has.l0 k x l (l.length : Int) (i : Int)) (decide (x ∈ l.drop i))
  | 0, i, h => ev_stop fun k => by
    rw [spec_l1Has.l0, if_neg (by omega), List.drop_of_length_le (by omega)]
    simp
  | d + 1, i, h => by
    have ih := has_l l x hl d (i + 1) (by omega)
    rw [drop_at l i (by omega)]
    by_cases hx : l.getD i 0 = x
    · exact ev_stop fun k => by
        rw [spec_l1Has.l0, if_pos (by omega), if_pos (by omega), if_pos (by omega), rdn, if_pos hx, hx]
        simp
    · refine ev_step (r := decide (x ∈ l.getD i 0 :: l.drop (i + 1))) (by
        have e : decide (x ∈ l.getD i 0 :: l.drop (i + 1)) = decide (x ∈ l.drop (i + 1)) := decide_eq_decide.2 (by
          rw [List.mem_cons]
          exact ⟨fun h => h.resolve_left (fun h => hx h.symm), .inr⟩)
        rw [e]
        exact ih) fun k => by
        rw [spec_l1Has.l0, if_pos (by omega), if_pos (by omega), if_pos (by omega), rdn, if_neg hx, next i (by omega)]
theorem has_tells (l : List Int) (x : Int) (hl : l.length ≤ 4611686018427387903) : Ev (fun k => spec_l1Has.f k l x) (decide (x ∈ l)) := by
  have h := has_l l x hl l.length 0 (by omega)
  rw [List.drop_zero] at h
  exact h

theorem drop_r (l : List (List Int)) (i : Nat) (h : i < l.length) : l.drop i = l.getD i [] :: l.drop (i + 1) := by
  rw [List.drop_eq_getElem_cons h]
  simp [List.getD, List.getElem?_eq_getElem h]
theorem rdR (l : List (List Int)) (i : Nat) : rd_L1 l (i : Int) = l.getD i [] := by simp [rd_L1]
/-- The weight of a row of rows: each row and each number counts one. -/
def weigh (l : List (List Int)) : Nat := l.length + (l.map List.length).sum
theorem row_le {l : List (List Int)} {x : List Int} (h : x ∈ l) : x.length ≤ (l.map List.length).sum := by
  induction l with
  | nil => simp at h
  | cons a l ih =>
    rw [List.map_cons, List.sum_cons]
    rcases List.mem_cons.1 h with e | e
    · subst e
      omega
    · have := ih e
      omega
theorem getR_mem (l : List (List Int)) (i : Nat) (h : i < l.length) : l.getD i [] ∈ l := by
  have := List.getElem_mem h
  simpa [List.getD, List.getElem?_eq_getElem h] using this

theorem szint (l : List Int) (a : Int) (h0 : 0 ≤ a) (h1 : a ≤ 1048576) (hl : l.length ≤ maxLen) : laws_szIntS.f l a = some (if a < (l.length : Int) then -1 else a - (l.length : Int)) := by
  have hm : maxLen ≤ 9223372036854775807 := by decide
  unfold laws_szIntS.f
  rw [w64 (by omega) (by omega)]
  split <;> split <;> first | rfl | omega

theorem szss_l (l : List (List Int)) (hl : l.length ≤ 1048576) (hr : ∀ x ∈ l, x.length ≤ maxLen) : ∀ (d i : Nat) (m : Int), i + d = l.length → 0 ≤ m → m ≤ 1048576 → ∃ t, Ev (fun k => laws_szIntSS.l0 k l m (i : Int)) t ∧ (0 ≤ t → ((l.drop i).map List.length).sum ≤ m)
  | 0, i, m, h, h0, _ => ⟨m, ev_stop fun k => by rw [laws_szIntSS.l0, if_neg (by omega)], fun _ => by
    rw [List.drop_of_length_le (by omega)]
    simpa using h0⟩
  | d + 1, i, m, h, h0, hm => by
    have hx : (l.getD i []).length ≤ maxLen := hr _ (by
      have := List.getElem_mem (show i < l.length by omega)
      simpa [List.getD, List.getElem?_eq_getElem (show i < l.length by omega)] using this)
    have e := szint (l.getD i []) m h0 hm hx
    rw [drop_r l i (by omega), List.map_cons, List.sum_cons]
    by_cases hc : m < ((l.getD i []).length : Int)
    · rw [if_pos hc] at e
      exact ⟨-1, ev_stop fun k => by
        rw [laws_szIntSS.l0, if_pos (by omega), if_pos (by omega), rdR, e, Option.bind_some, if_pos (by omega)], by omega⟩
    · rw [if_neg hc] at e
      obtain ⟨t, ht, hb⟩ := szss_l l hl hr d (i + 1) (m - (l.getD i []).length) (by omega) (by omega) (by omega)
      exact ⟨t, ev_step ht fun k => by
        rw [laws_szIntSS.l0, if_pos (by omega), if_pos (by omega), rdR, e, Option.bind_some, if_neg (by omega), next i (by omega)], fun h => by
        have := hb h
        omega⟩
theorem szss (l : List (List Int)) (hl : l.length ≤ maxLen) (hr : ∀ x ∈ l, x.length ≤ maxLen) : ∃ t, Ev (fun k => laws_szIntSS.f k l 1048576) t ∧ (0 ≤ t → weigh l ≤ 1048576) := by
  have hm : maxLen ≤ 9223372036854775807 := by decide
  unfold laws_szIntSS.f
  rw [w64 (by omega) (by omega)]
  by_cases hc : 1048576 - (l.length : Int) < 0
  · exact ⟨-1, ev_ite_pos hc (ev_some fun _ => rfl), by omega⟩
  · obtain ⟨t, ht, hb⟩ := szss_l l (by omega) hr l.length 0 (1048576 - l.length) (by omega) (by omega) (by omega)
    refine ⟨t, ev_ite_neg hc ht, fun h => ?_⟩
    have := hb h
    rw [List.drop_zero] at this
    unfold weigh
    omega

theorem toints_l (l : List Int) (hl : l.length ≤ 4611686018427387904) : ∀ (d i : Nat) (m : List Int), m.length = l.length → i + d = l.length → m.take i = l.take i → Ev (fun k => laws_toIntS.l0 k l m (i : Int)) l
  | 0, i, m, hm, h, ht => ev_stop fun k => by
    rw [laws_toIntS.l0, if_neg (by omega)]
    rw [List.take_of_length_le (by omega), List.take_of_length_le (by omega)] at ht
    rw [ht]
  | d + 1, i, m, hm, h, ht => by
    have h1 : wrap64 ((i : Int) + 1) = ((i + 1 : Nat) : Int) := by rw [w64 (by omega) (by omega)]; omega
    refine ev_step (toints_l l hl d (i + 1) (m.set i (l.getD i 0)) (by simpa using hm) (by omega) ?_) fun k => by
      rw [laws_toIntS.l0, if_pos (by omega), if_pos (by omega), if_pos (by omega), h1, rdn, Int.toNat_natCast]
    rw [List.take_succ_eq_append_getElem (by simp; omega), List.take_succ_eq_append_getElem (by omega), List.take_set_of_le (Nat.le_refl i), ht]
    simp [List.getD, List.getElem?_eq_getElem (show i < l.length by omega)]
theorem toints_tells (l : List Int) (hl : l.length ≤ 35184372088832) : Ev (fun k => laws_toIntS.f k l) l := by
  refine Ev.congr (g := fun k => laws_toIntS.f k l) (fun k => ?_) (toints_l l (by omega) l.length 0 (List.replicate l.length 0) (by simp) (by omega) (by simp))
  unfold laws_toIntS.f
  rw [if_pos (by omega), if_pos (by omega), Int.toNat_natCast]
  rfl

theorem toss_l (l : List (List Int)) (hl : weigh l ≤ 1048576) : ∀ (d i : Nat) (m : List (List Int)), m.length = l.length → i + d = l.length → m.take i = l.take i → Ev (fun k => laws_toIntSS.l0 k l m (i : Int)) l
  | 0, i, m, hm, h, ht => ev_stop fun k => by
    rw [laws_toIntSS.l0, if_neg (by omega)]
    rw [List.take_of_length_le (by omega), List.take_of_length_le (by omega)] at ht
    rw [ht]
  | d + 1, i, m, hm, h, ht => by
    have hw := row_le (getR_mem l i (by omega))
    unfold weigh at hl
    refine Ev.step (f := fun k => (laws_toIntS.f k (l.getD i [])).bind fun t => laws_toIntSS.l0 k l (m.set i t) ((i + 1 : Nat) : Int)) (fun k => ?_) (ev_bind (toints_tells (l.getD i []) (by omega)) (toss_l l hl d (i + 1) (m.set i (l.getD i [])) (by simpa using hm) (by omega) ?_))
    · rw [laws_toIntSS.l0, if_pos (by omega), if_pos (by omega), rdR]
      refine congrArg (Option.bind _) (funext fun t => ?_)
      rw [if_pos (by omega), next i (by omega), Int.toNat_natCast]
    · rw [List.take_succ_eq_append_getElem (by simp; omega), List.take_succ_eq_append_getElem (by omega), List.take_set_of_le (Nat.le_refl i), ht]
      simp [List.getD, List.getElem?_eq_getElem (show i < l.length by omega)]
theorem toss_tells (l : List (List Int)) (hl : weigh l ≤ 1048576) : Ev (fun k => laws_toIntSS.f k l) l := by
  have hl' : l.length ≤ 1048576 := by unfold weigh at hl; omega
  refine Ev.congr (g := fun k => laws_toIntSS.f k l) (fun k => ?_) (toss_l l hl l.length 0 (List.replicate l.length []) (by simp) (by omega) (by simp))
  unfold laws_toIntSS.f
  rw [if_pos (by omega), if_pos (by omega), Int.toNat_natCast]
  rfl

theorem eqints_l (l : List Int) (hl : l.length ≤ 4611686018427387904) : ∀ (d i : Nat), i + d = l.length → Ev (fun k => laws_eqIntS.l0 k l l (i : Int)) true
  | 0, i, h => ev_stop fun k => by
    rw [laws_eqIntS.l0, if_neg (by omega)]
  | d + 1, i, h => by
    have h1 : wrap64 ((i : Int) + 1) = ((i + 1 : Nat) : Int) := by rw [w64 (by omega) (by omega)]; omega
    refine ev_step (eqints_l l hl d (i + 1) (by omega)) fun k => by
      rw [laws_eqIntS.l0, if_pos (by omega), if_pos (by omega), if_pos (by omega), if_pos rfl, h1]
theorem eqints_tells (l : List Int) (hl : l.length ≤ 4611686018427387904) : Ev (fun k => laws_eqIntS.f k l l) true := by
  refine Ev.congr (g := fun k => laws_eqIntS.f k l l) (fun k => ?_) (eqints_l l hl l.length 0 (by omega))
  unfold laws_eqIntS.f
  rw [if_pos rfl]
  rfl

theorem eqss_l (l : List (List Int)) (hl : l.length ≤ 4611686018427387903) (hr : ∀ x ∈ l, x.length ≤ 4611686018427387903) : ∀ (d i : Nat), i + d = l.length → Ev (fun k => laws_eqIntSS.l0 k l l (i : Int)) true
  | 0, i, h => ev_stop fun k => by
    rw [laws_eqIntSS.l0, if_neg (by omega)]
  | d + 1, i, h => by
    have hw := hr _ (getR_mem l i (by omega))
    refine Ev.step (f := fun k => (laws_eqIntS.f k (l.getD i []) (l.getD i [])).bind fun t => if t = true then laws_eqIntSS.l0 k l l ((i + 1 : Nat) : Int) else some false) (fun k => ?_) (ev_bind (eqints_tells _ (by omega)) (ev_ite_pos rfl (eqss_l l hl hr d (i + 1) (by omega))))
    rw [laws_eqIntSS.l0, if_pos (by omega), if_pos (by omega), if_pos (by omega), rdR, next i (by omega)]
theorem eqss_tells (l : List (List Int)) (hl : l.length ≤ 4611686018427387903) (hr : ∀ x ∈ l, x.length ≤ 4611686018427387903) : Ev (fun k => laws_eqIntSS.f k l l) true := by
  refine Ev.congr (g := fun k => laws_eqIntSS.f k l l) (fun k => ?_) (eqss_l l hl hr l.length 0 (by omega))
  unfold laws_eqIntSS.f
  rw [if_pos rfl]
  rfl
theorem eqss_weigh (l : List (List Int)) (hl : weigh l ≤ 1048576) : Ev (fun k => laws_eqIntSS.f k l l) true := by
  unfold weigh at hl
  exact eqss_tells l (by omega) fun x hx => by have := row_le hx; omega



theorem getm (l : List Int) (i : Nat) (h : i < l.length) : l.getD i 0 ∈ l := by
  have := List.getElem_mem h
  simpa [List.getD, List.getElem?_eq_getElem h] using this
theorem both_l (a b : List Int) (ha : a.length ≤ 1048576) (hb : b.length ≤ 1048576) : ∀ (d i : Nat) (acc : List Int), i + d = a.length → acc.length + d ≤ 1048576 → Ev (fun k => spec_l6Both.l0 k b acc a (a.length : Int) (i : Int)) (acc ++ (a.drop i).filter fun n => b.contains n)
  | 0, i, acc, h, _ => ev_stop fun k => by
    rw [spec_l6Both.l0, if_neg (by omega), List.drop_of_length_le (by omega)]
    simp
  | d + 1, i, acc, h, hacc => by
    rw [drop_at a i (by omega)]
    refine Ev.step (f := fun k => (spec_l1Has.f k b (a.getD i 0)).bind fun u => if u = true then spec_l6Both.l0 k b (acc ++ [a.getD i 0]) a (a.length : Int) ((i + 1 : Nat) : Int) else spec_l6Both.l0 k b acc a (a.length : Int) ((i + 1 : Nat) : Int)) (fun k => ?_) (ev_bind (has_tells b (a.getD i 0) (by omega)) ?_)
    · have hlt : acc.length < 17592186044416 := by omega
      rw [spec_l6Both.l0, if_pos (by omega), if_pos (by omega), if_pos (by omega), rdn, next i (by omega)]
      simp only [hlt, if_true]
    · by_cases hc : a.getD i 0 ∈ b
      · have ih := both_l a b ha hb d (i + 1) (acc ++ [a.getD i 0]) (by omega) (by rw [List.length_append, List.length_singleton]; omega)
        rw [List.append_assoc] at ih
        rw [List.filter_cons_of_pos (by simpa using hc)]
        exact ev_ite_pos (by simpa using hc) ih
      · have ih := both_l a b ha hb d (i + 1) acc (by omega) (by omega)
        rw [List.filter_cons_of_neg (by simpa using hc)]
        exact ev_ite_neg (by simpa using hc) ih
theorem sboth_tells (a b : List Int) (ha : a.length ≤ 1048576) (hb : b.length ≤ 1048576) : Ev (fun k => spec_l6Both.f k a b) (a.filter fun n => b.contains n) := by
  have h := both_l a b ha hb a.length 0 [] (by omega) (by simpa using ha)
  rw [List.drop_zero, List.nil_append] at h
  exact h
theorem rows_le {l : List (List Int)} (hr : ∀ x ∈ l, x.length ≤ 1048576) (j : Nat) : (l.getD j []).length ≤ 1048576 := by
  rw [List.getD_eq_getElem?_getD]
  cases h : l[j]? with
  | none => simp
  | some v => exact hr v (List.mem_of_getElem? h)
theorem meet_l2 (l : List (List Int)) (hl : l.length ≤ 10) (hr : ∀ x ∈ l, x.length ≤ 1048576) (i : Nat) (hi : i < l.length) (r : Bool × Bool) (hn : Ev (fun k => spec_MeetAll.l1 k l l (l.length : Int) ((i + 1 : Nat) : Int)) r) : ∀ (d j : Nat), j + d = i → Ev (fun k => spec_MeetAll.l2 k l (l.getD i []) l (l.length : Int) (i : Int) (l.take i) ((l.take i).length : Int) (j : Int)) (if (((l.take i).drop j).any fun b => none2 (l.getD i []) b) = true then (false, true) else r)
  | 0, j, h => by
    have hlen : (l.take i).length = i := by rw [List.length_take]; omega
    rw [List.drop_of_length_le (by omega)]
    refine Ev.step (fun k => by rw [spec_MeetAll.l2, if_neg (by omega), next i (by omega)]) ?_
    simpa using hn
  | d + 1, j, h => by
    have hlen : (l.take i).length = i := by rw [List.length_take]; omega
    have ih := meet_l2 l hl hr i hi r hn d (j + 1) (by omega)
    rw [drop_r (l.take i) j (by omega), List.any_cons]
    have hb : ((l.take i).getD j []).length ≤ 1048576 := rows_le (fun x hx => hr x (List.mem_of_mem_take hx)) j
    refine Ev.step (f := fun k => (spec_l6Both.f k (l.getD i []) ((l.take i).getD j [])).bind fun t => if (t.length : Int) = 0 then some (false, true) else spec_MeetAll.l2 k l (l.getD i []) l (l.length : Int) (i : Int) (l.take i) ((l.take i).length : Int) ((j + 1 : Nat) : Int)) (fun k => ?_) (ev_bind (sboth_tells _ _ (rows_le hr i) hb) ?_)
    · rw [spec_MeetAll.l2, if_pos (by omega), if_pos (by omega), if_pos (by omega), rdR, next j (by omega)]
    · generalize (l.take i).getD j [] = b
      by_cases hz : ((l.getD i []).filter fun n => b.contains n).length = 0
      · have e : none2 (l.getD i []) b = true := decide_eq_true hz
        rw [e, Bool.true_or, if_pos rfl]
        exact ev_ite_pos (by omega) (ev_some fun _ => rfl)
      · have e : none2 (l.getD i []) b = false := decide_eq_false hz
        rw [e, Bool.false_or]
        exact ev_ite_neg (by omega) ih
theorem meet_l1 (l : List (List Int)) (hl : l.length ≤ 10) (hr : ∀ x ∈ l, x.length ≤ 1048576) : ∀ (d i : Nat), i + d = l.length → Ev (fun k => spec_MeetAll.l1 k l l (l.length : Int) (i : Int)) (!((List.range' i d).any (noneAt l)), true)
  | 0, i, h => ev_stop fun k => by
    rw [spec_MeetAll.l1, if_neg (by omega)]
    rfl
  | d + 1, i, h => by
    have ih := meet_l1 l hl hr d (i + 1) (by omega)
    have h2 := meet_l2 l hl hr i (by omega) _ ih i 0 (by omega)
    rw [List.drop_zero] at h2
    rw [List.range'_succ, List.any_cons]
    refine Ev.step (fun k => by rw [spec_MeetAll.l1, if_pos (by omega), if_pos (by omega), if_pos (by omega), if_pos (by omega), Option.bind_some, Int.toNat_natCast, rdR]) ?_
    have e : noneAt l i = ((l.take i).any fun b => none2 (l.getD i []) b) := rfl
    rw [e]
    generalize ((l.take i).any fun b => none2 (l.getD i []) b) = q at h2 ⊢
    cases q with
    | true => simpa using h2
    | false => simpa using h2
theorem meet_l0 (n : Int) (l : List (List Int)) (hl : l.length ≤ 10) (hr : ∀ x ∈ l, x.length ≤ 1048576) : ∀ (d i : Nat), i + d = l.length → Ev (fun k => spec_MeetAll.l0 k n l l (l.length : Int) (i : Int)) (if ((l.drop i).any fun row => !riseB row 0 (wrap64 (n - 1))) = true then (false, false) else (!((List.range l.length).any (noneAt l)), true))
  | 0, i, h => by
    have h1 := meet_l1 l hl hr l.length 0 (by omega)
    rw [← List.range_eq_range'] at h1
    rw [List.drop_of_length_le (by omega)]
    refine Ev.step (fun k => by rw [spec_MeetAll.l0, if_neg (by omega)]) ?_
    simpa using h1
  | d + 1, i, h => by
    have ih := meet_l0 n l hl hr d (i + 1) (by omega)
    rw [drop_r l i (by omega), List.any_cons]
    refine Ev.step (f := fun k => (spec_l1Rising.f k (l.getD i []) 0 (wrap64 (n - 1))).bind fun t => if t = true then spec_MeetAll.l0 k n l l (l.length : Int) ((i + 1 : Nat) : Int) else some (false, false)) (fun k => ?_) (ev_bind (srise_tells _ _ _ (by have := rows_le hr i; omega)) ?_)
    · rw [spec_MeetAll.l0, if_pos (by omega), if_pos (by omega), if_pos (by omega), rdR, next i (by omega)]
    · cases riseB (l.getD i []) 0 (wrap64 (n - 1)) with
      | true => simpa using ih
      | false => exact ev_some fun _ => by simp
theorem meet_same (n : Int) (l : List (List Int)) (hw : weigh l ≤ 1048576) : ∃ r : Bool × Bool, Ev (fun k => spec_MeetAll.f k n l) r ∧ impl_MeetAll.f n l = some r := by
  have hr : ∀ x ∈ l, x.length ≤ 1048576 := fun x hx => by
    have := row_le hx
    unfold weigh at hw
    omega
  have no : Ev (fun k => spec_MeetAll.j0 k n l true) (false, false) := ev_stop fun k => by rw [spec_MeetAll.j0, if_pos rfl]
  unfold spec_MeetAll.f impl_MeetAll.f
  rw [if_pos hr, smany_tells, many_tells, Option.bind_some]
  cases manyB n with
  | false => exact ⟨(false, false), ev_some_bind rfl (ev_ite_neg (by simp) no), by simp⟩
  | true =>
    by_cases h10 : l.length > 10
    · refine ⟨(false, false), ev_some_bind rfl (ev_ite_pos rfl ?_), by simp [h10]⟩
      rw [decide_eq_true (by omega : (l.length : Int) > 10)]
      exact no
    · refine ⟨if (l.any fun row => !riseB row 0 (wrap64 (n - 1))) = true then (false, false) else (!((List.range l.length).any (noneAt l)), true), ev_some_bind rfl (ev_ite_pos rfl ?_), ?_⟩
      · rw [decide_eq_false (by omega : ¬ (l.length : Int) > 10)]
        have h := meet_l0 n l (by omega) hr l.length 0 (by omega)
        rw [List.drop_zero] at h
        exact ev_step h fun k => by rw [spec_MeetAll.j0, if_neg (by simp)]; rfl
      · rw [if_pos rfl, if_neg h10]
        split <;> rfl
theorem FnExactMeetAll : laws_FnExactMeetAll.Good := by
  intro a0 l0 _ ⟨hm, hrows⟩
  refine Ev.rounds ?_
  unfold laws_FnExactMeetAll.f
  obtain ⟨t, ht, hb⟩ := szss l0 hm fun x hx => (hrows x hx).1
  refine ev_bind ht ?_
  by_cases hg : t < 0
  · exact ev_ite_pos hg (ev_some fun _ => rfl)
  refine ev_ite_neg hg ?_
  have hw := hb (by omega)
  have hT := toss_tells l0 hw
  obtain ⟨x, hs, hi⟩ := meet_same a0 l0 hw
  refine ev_bind hT (ev_bind hs (ev_bind hT (ev_some_bind hi (ev_ite_neg (by simp) ?_))))
  refine Ev.step (fun k => by rw [laws_FnExactMeetAll.j0]) ?_
  exact ev_ite_neg (by simp) (ev_bind hT (ev_bind (eqss_weigh l0 hw) (ev_ite_pos rfl (ev_some fun _ => rfl))))

end Go.Proofs.Ytlabpbkeaelecaa.Pure
