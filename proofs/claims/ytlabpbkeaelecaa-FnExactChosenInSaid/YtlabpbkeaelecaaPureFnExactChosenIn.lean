/- The law FnExactChosenIn: the program's function tells what the reference tells, for all arguments; here: of the two as plain functions of numbers and lists. -/
import Derived.Test.YtlabpbkeaelecaaQFnExactChosenIn
namespace Go.Proofs.Ytlabpbkeaelecaa.Pure
open Go.RowKit Go.Proofs.Ytlabpbkeaelecaa.PFnExactChosenIn Go.Proofs.YtlabpbkeaelecaaW.PrintWords Go.Proofs.YtlabpbkeaelecaaW.PrintLast Go.Proofs.YtlabpbkeaelecaaW.PrintMore
set_option linter.unusedVariables false
set_option linter.unusedSimpArgs false
set_option linter.unnecessarySimpa false

theorem sin_tells (a b c : Int) : spec_l1In.f a b c = some (decide (b ≤ a) && decide (a ≤ c)) := by
  unfold spec_l1In.f
  by_cases h : a ≥ b
  · rw [if_pos h]; simp [show b ≤ a from h]
  · rw [if_neg h]; simp [show ¬ b ≤ a from h]

def manyB (n : Int) : Bool := (decide (3 ≤ n) && decide (n ≤ 9)) && (Int.tmod n 2 == 1)
theorem many_tells (n : Int) : impl_isMany.f n = some (manyB n) := by
  unfold impl_isMany.f manyB
  rw [within_tells, Option.bind_some]
  cases (decide (3 ≤ n) && decide (n ≤ 9)) <;> simp
theorem smany_tells (n : Int) : spec_l11Places.f n = some (manyB n) := by
  unfold spec_l11Places.f manyB
  rw [sin_tells, Option.bind_some]
  cases (decide (3 ≤ n) && decide (n ≤ 9)) <;> simp
theorem many_bd {n : Int} (h : manyB n = true) : 3 ≤ n ∧ n ≤ 9 := by
  unfold manyB at h
  simp only [Bool.and_eq_true, decide_eq_true_eq] at h
  omega

theorem drop_pl (l : List S111) (i : Nat) (h : i < l.length) : l.drop i = rd_T111 l i :: l.drop (i + 1) := by
  rw [List.drop_eq_getElem_cons h]
  simp [rd_T111, List.getD, List.getElem?_eq_getElem h]
def placesB (l : List S111) : Bool := l.all goodPl && manyB (l.length : Int)
theorem sgood_l (l : List S111) (hl : l.length ≤ 1048576) : ∀ (d i : Nat), i + d = l.length → Ev (fun k => spec_GoodPlaces.l0 k l l (l.length : Int) (i : Int)) ((l.drop i).all goodPl && manyB (l.length : Int))
  | 0, i, h => ev_stop fun k => by
    rw [spec_GoodPlaces.l0, if_neg (by omega), smany_tells, List.drop_of_length_le (by omega)]
    rfl
  | d + 1, i, h => by
    have ih := sgood_l l hl d (i + 1) (by omega)
    rw [drop_pl l i (by omega), List.all_cons, Bool.and_assoc]
    refine Ev.step (f := fun k => if goodPl (rd_T111 l i) = true then spec_GoodPlaces.l0 k l l (l.length : Int) ((i + 1 : Nat) : Int) else some false) (fun k => ?_) ?_
    · rw [spec_GoodPlaces.l0, if_pos (by omega), if_pos (by omega), if_pos (by omega)]
      simp only [sin_tells, Option.bind_some, next i (by omega), show ∀ a : Int, (a == 0) = decide (a = 0) from fun _ => rfl]
      generalize rd_T111 l i = x
      unfold goodPl inB
      cases (decide (0 ≤ x.f0) && decide (x.f0 ≤ 40)) <;> cases (decide (0 ≤ x.f1) && decide (x.f1 ≤ x.f0)) <;> cases (decide (0 ≤ x.f2) && decide (x.f2 ≤ 99)) <;> by_cases h1 : x.f1 = 0 <;> by_cases h2 : x.f2 = 0 <;> simp [h1, h2]
    · cases goodPl (rd_T111 l i) with
      | true => simpa using ih
      | false => exact ev_some fun k => by simp
theorem sgood_tells (l : List S111) (hl : l.length ≤ 1048576) : Ev (fun k => spec_GoodPlaces.f k l) (placesB l) := by
  have h := sgood_l l hl l.length 0 (by omega)
  rw [List.drop_zero] at h
  exact h
theorem igood_tells (l : List S111) : impl_GoodPlaces.f l = some (placesB l) := by
  unfold impl_GoodPlaces.f placesB
  rw [many_tells, Option.bind_some, any_bad, Bool.and_comm]
  cases manyB (l.length : Int) <;> simp
theorem placesB_ok {l : List S111} (h : placesB l = true) : 3 ≤ (l.length : Int) ∧ (l.length : Int) ≤ 9 ∧ ∀ x ∈ l, goodPl x = true := by
  unfold placesB at h
  simp only [Bool.and_eq_true] at h
  obtain ⟨h1, h2⟩ := h
  obtain ⟨a, b⟩ := many_bd h2
  exact ⟨a, b, fun x hx => List.all_eq_true.1 h1 x hx⟩

theorem szplace (l : List S113) (hl : l.length ≤ maxLen) : laws_szPlaceS.f l 1048576 = some (if 1048576 < (l.length : Int) then -1 else 1048576 - (l.length : Int)) := by
  have hm : maxLen ≤ 9223372036854775807 := by decide
  unfold laws_szPlaceS.f
  rw [w64 (by omega) (by omega)]
  split <;> split <;> first | rfl | omega

def convPlace (x : S113) : S111 := ⟨x.f0, x.f1, x.f2⟩
theorem toPlace_l (l : List S113) (hl : l.length ≤ 4611686018427387903) : ∀ (d i : Nat) (m : List S111), m.length = l.length → i + d = l.length → m.take i = (l.map convPlace).take i → Ev (fun k => laws_toPlaceS.l0 k l m (i : Int)) (l.map convPlace)
  | 0, i, m, hm, h, ht => ev_stop fun k => by
    rw [laws_toPlaceS.l0, if_neg (by omega)]
    rw [List.take_of_length_le (by omega), List.take_of_length_le (by simp; omega)] at ht
    rw [ht]
  | d + 1, i, m, hm, h, ht => by
    refine ev_step (toPlace_l l hl d (i + 1) (m.set i (convPlace (l.getD i z113))) (by simpa using hm) (by omega) ?_) fun k => by
      rw [laws_toPlaceS.l0, if_pos (by omega), if_pos (by omega)]
      unfold laws_toPlace.f
      rw [Option.bind_some, if_pos (by omega), next i (by omega)]
      rfl
    rw [List.take_succ_eq_append_getElem (by simp; omega), List.take_succ_eq_append_getElem (by simp; omega), List.take_set_of_le (Nat.le_refl i), ht]
    simp [List.getD, List.getElem?_eq_getElem (show i < l.length by omega)]
theorem toPlace_tells (l : List S113) (hl : l.length ≤ 1048576) : Ev (fun k => laws_toPlaceS.f k l) (l.map convPlace) := by
  refine Ev.congr (g := fun k => laws_toPlaceS.f k l) (fun k => ?_) (toPlace_l l (by omega) l.length 0 (List.replicate l.length z111) (by simp) (by omega) (by simp))
  unfold laws_toPlaceS.f
  rw [if_pos (by omega), if_pos (by omega), Int.toNat_natCast]
  rfl
theorem eqPlace_l (l : List S111) (hl : l.length ≤ 4611686018427387903) : ∀ (d i : Nat), i + d = l.length → Ev (fun k => laws_eqPlaceS.l0 k l l (i : Int)) true
  | 0, i, h => ev_stop fun k => by
    rw [laws_eqPlaceS.l0, if_neg (by omega)]
  | d + 1, i, h => by
    refine ev_step (eqPlace_l l hl d (i + 1) (by omega)) fun k => by
      rw [laws_eqPlaceS.l0, if_pos (by omega), if_pos (by omega), if_pos (by omega)]
      unfold laws_eqPlace.f
      simp [next i (by omega)]
theorem eqPlace_tells (l : List S111) (hl : l.length ≤ 4611686018427387903) : Ev (fun k => laws_eqPlaceS.f k l l) true := by
  refine Ev.congr (g := fun k => laws_eqPlaceS.f k l l) (fun k => ?_) (eqPlace_l l hl l.length 0 (by omega))
  unfold laws_eqPlaceS.f
  rw [if_pos rfl]
  rfl

def slowB (n : Int) : Int := wrap64 (wrap64 (Int.tdiv n 2) + 1)
theorem islow_tells (n : Int) : impl_slow.f n = some (slowB n) := rfl
theorem sslow_tells (n : Int) : spec_l11Slow.f n = some (slowB n) := rfl
theorem slow_pos {n : Int} (h0 : 3 ≤ n) (h1 : n ≤ 9) : 1 ≤ slowB n := by
  unfold slowB
  rw [Int.tdiv_eq_ediv_of_nonneg (by omega), w64 (i := n / 2) (by omega) (by omega), w64 (by omega) (by omega)]
  omega

def sameB (p1 p2 : Int) (q : S111) : Bool := decide (q.f1 = p1) && decide (q.f2 = p2)
def hitB (l : List S111) (p : S111) : Bool := decide (0 < p.f1) && decide (slowB (l.length : Int) ≤ ((l.countP (sameB p.f1 p.f2) : Nat) : Int))
def chosenGo (l : List S111) : List S111 → Int × Bool
  | [] => (0, false)
  | p :: r => if hitB l p = true then (p.f2, true) else chosenGo l r
def endS (l : List S111) (o : Int) (p1 p2 : Int) (k : Nat) (c : Int) : Option (Int × Bool) := if p1 > 0 then ((spec_l11Slow.f (l.length : Int)).bind fun t => (if c ≥ t then (some (p2, true)) else (spec_ChosenIn.l0 k l l (l.length : Int) (wrap64 (o + 1))))) else (spec_ChosenIn.l0 k l l (l.length : Int) (wrap64 (o + 1)))
def endI (l : List S111) (o : Int) (p2 : Int) (k : Nat) (c : Int) : Option (Int × Bool) := (impl_slow.f (l.length : Int)).bind fun t => (if c ≥ t then (some (p2, true)) else (impl_ChosenIn.l0 k l l (l.length : Int) (wrap64 (o + 1))))
theorem chosen_sin (l : List S111) (hl : l.length ≤ 1048576) (o p0 p1 p2 : Int) (r : Int × Bool) : ∀ (d i c : Nat), i + d = l.length → c + d ≤ 1048576 → Ev (fun k => endS l o p1 p2 k ((c + (l.drop i).countP (sameB p1 p2) : Nat) : Int)) r → Ev (fun k => spec_ChosenIn.l1 k l (c : Int) l (l.length : Int) o l (l.length : Int) (i : Int) p0 p1 p2) r
  | 0, i, c, h, hc, he => by
    rw [List.drop_of_length_le (by omega)] at he
    refine Ev.step (fun k => ?_) he
    rw [spec_ChosenIn.l1, if_neg (by omega)]
    rfl
  | d + 1, i, c, h, hc, he => by
    rw [drop_pl l i (by omega), List.countP_cons] at he
    by_cases h1 : (rd_T111 l i).f1 = p1
    · by_cases h2 : (rd_T111 l i).f2 = p2
      · have e : sameB p1 p2 (rd_T111 l i) = true := by simp [sameB, h1, h2]
        rw [if_pos e] at he
        have ih := chosen_sin l hl o p0 p1 p2 r d (i + 1) (c + 1) (by omega) (by omega) (by rw [show c + 1 + (l.drop (i + 1)).countP (sameB p1 p2) = c + ((l.drop (i + 1)).countP (sameB p1 p2) + 1) by omega]; exact he)
        exact ev_step ih fun k => by rw [spec_ChosenIn.l1, if_pos (by omega), if_pos (by omega), if_pos (by omega), if_pos h1, if_pos h2, next c (by omega), next i (by omega)]
      · have e : ¬ sameB p1 p2 (rd_T111 l i) = true := by simp [sameB, h2]
        rw [if_neg e] at he
        have ih := chosen_sin l hl o p0 p1 p2 r d (i + 1) c (by omega) (by omega) he
        exact ev_step ih fun k => by rw [spec_ChosenIn.l1, if_pos (by omega), if_pos (by omega), if_pos (by omega), if_pos h1, if_neg h2, next i (by omega)]
    · have e : ¬ sameB p1 p2 (rd_T111 l i) = true := by simp [sameB, h1]
      rw [if_neg e] at he
      have ih := chosen_sin l hl o p0 p1 p2 r d (i + 1) c (by omega) (by omega) he
      exact ev_step ih fun k => by rw [spec_ChosenIn.l1, if_pos (by omega), if_pos (by omega), if_pos (by omega), if_neg h1, next i (by omega)]
theorem chosen_iin (l : List S111) (hl : l.length ≤ 1048576) (o p0 p1 p2 : Int) (hp : 0 < p1) (r : Int × Bool) : ∀ (d i c : Nat), i + d = l.length → c + d ≤ 1048576 → Ev (fun k => endI l o p2 k ((c + (l.drop i).countP (sameB p1 p2) : Nat) : Int)) r → Ev (fun k => impl_ChosenIn.l1 k l (c : Int) l (l.length : Int) o l (l.length : Int) (i : Int) p0 p1 p2) r
  | 0, i, c, h, hc, he => by
    rw [List.drop_of_length_le (by omega)] at he
    refine Ev.step (fun k => ?_) he
    rw [impl_ChosenIn.l1, if_neg (by omega)]
    rfl
  | d + 1, i, c, h, hc, he => by
    rw [drop_pl l i (by omega), List.countP_cons] at he
    by_cases h1 : (rd_T111 l i).f1 = p1
    · by_cases h2 : (rd_T111 l i).f2 = p2
      · have e : sameB p1 p2 (rd_T111 l i) = true := by simp [sameB, h1, h2]
        rw [if_pos e] at he
        have ih := chosen_iin l hl o p0 p1 p2 hp r d (i + 1) (c + 1) (by omega) (by omega) (by rw [show c + 1 + (l.drop (i + 1)).countP (sameB p1 p2) = c + ((l.drop (i + 1)).countP (sameB p1 p2) + 1) by omega]; exact he)
        exact ev_step ih fun k => by rw [impl_ChosenIn.l1, if_pos (by omega), if_pos (by omega), if_pos (by omega), if_pos (by omega), if_pos h1, if_pos h2, next c (by omega), next i (by omega)]
      · have e : ¬ sameB p1 p2 (rd_T111 l i) = true := by simp [sameB, h2]
        rw [if_neg e] at he
        have ih := chosen_iin l hl o p0 p1 p2 hp r d (i + 1) c (by omega) (by omega) he
        exact ev_step ih fun k => by rw [impl_ChosenIn.l1, if_pos (by omega), if_pos (by omega), if_pos (by omega), if_pos (by omega), if_pos h1, if_neg h2, next i (by omega)]
    · have e : ¬ sameB p1 p2 (rd_T111 l i) = true := by simp [sameB, h1]
      rw [if_neg e] at he
      have ih := chosen_iin l hl o p0 p1 p2 hp r d (i + 1) c (by omega) (by omega) he
      exact ev_step ih fun k => by rw [impl_ChosenIn.l1, if_pos (by omega), if_pos (by omega), if_pos (by omega), if_pos (by omega), if_neg h1, next i (by omega)]
theorem chosen_inot (l : List S111) (hl : l.length ≤ 1048576) (o p0 p1 p2 : Int) (hp : ¬ 0 < p1) (r : Int × Bool) (c : Int) : ∀ (d i : Nat), i + d = l.length → Ev (fun k => endI l o p2 k c) r → Ev (fun k => impl_ChosenIn.l1 k l c l (l.length : Int) o l (l.length : Int) (i : Int) p0 p1 p2) r
  | 0, i, h, he => by
    refine Ev.step (fun k => ?_) he
    rw [impl_ChosenIn.l1, if_neg (by omega)]
    rfl
  | d + 1, i, h, he => by
    have ih := chosen_inot l hl o p0 p1 p2 hp r c d (i + 1) (by omega) he
    exact ev_step ih fun k => by rw [impl_ChosenIn.l1, if_pos (by omega), if_pos (by omega), if_pos (by omega), if_neg (by omega), next i (by omega)]
theorem chosen_s (l : List S111) (hl : l.length ≤ 1048576) : ∀ (d i : Nat), i + d = l.length → Ev (fun k => spec_ChosenIn.l0 k l l (l.length : Int) (i : Int)) (chosenGo l (l.drop i))
  | 0, i, h => ev_stop fun k => by
    rw [spec_ChosenIn.l0, if_neg (by omega), List.drop_of_length_le (by omega)]
    rfl
  | d + 1, i, h => by
    have ih := chosen_s l hl d (i + 1) (by omega)
    rw [drop_pl l i (by omega), chosenGo]
    refine Ev.step (fun k => by rw [spec_ChosenIn.l0, if_pos (by omega), if_pos (by omega), if_pos (by omega)]) ?_
    generalize rd_T111 l (i : Int) = p
    refine chosen_sin l hl (i : Int) p.f0 p.f1 p.f2 _ l.length 0 0 (by omega) (by omega) ?_
    rw [List.drop_zero, Nat.zero_add]
    unfold endS
    by_cases h1 : 0 < p.f1
    · refine ev_ite_pos h1 (ev_some_bind (sslow_tells _) ?_)
      by_cases h2 : slowB (l.length : Int) ≤ ((l.countP (sameB p.f1 p.f2) : Nat) : Int)
      · rw [if_pos (show hitB l p = true by unfold hitB; rw [decide_eq_true h1, decide_eq_true h2]; rfl)]
        exact ev_ite_pos h2 (ev_some fun _ => rfl)
      · rw [if_neg (show ¬ hitB l p = true by unfold hitB; rw [decide_eq_false h2, Bool.and_false]; decide)]
        refine ev_ite_neg h2 ?_
        rw [next i (by omega)]
        exact ih
    · rw [if_neg (show ¬ hitB l p = true by unfold hitB; rw [decide_eq_false h1, Bool.false_and]; decide)]
      refine ev_ite_neg h1 ?_
      rw [next i (by omega)]
      exact ih
theorem chosen_i (l : List S111) (hl : l.length ≤ 1048576) (hs : 1 ≤ slowB (l.length : Int)) : ∀ (d i : Nat), i + d = l.length → Ev (fun k => impl_ChosenIn.l0 k l l (l.length : Int) (i : Int)) (chosenGo l (l.drop i))
  | 0, i, h => ev_stop fun k => by
    rw [impl_ChosenIn.l0, if_neg (by omega), List.drop_of_length_le (by omega)]
    rfl
  | d + 1, i, h => by
    have ih := chosen_i l hl hs d (i + 1) (by omega)
    rw [drop_pl l i (by omega), chosenGo]
    refine Ev.step (fun k => by rw [impl_ChosenIn.l0, if_pos (by omega), if_pos (by omega), if_pos (by omega)]) ?_
    generalize rd_T111 l (i : Int) = p
    by_cases h1 : 0 < p.f1
    · refine chosen_iin l hl (i : Int) p.f0 p.f1 p.f2 h1 _ l.length 0 0 (by omega) (by omega) ?_
      rw [List.drop_zero, Nat.zero_add]
      unfold endI
      refine ev_some_bind (islow_tells _) ?_
      by_cases h2 : slowB (l.length : Int) ≤ ((l.countP (sameB p.f1 p.f2) : Nat) : Int)
      · rw [if_pos (show hitB l p = true by unfold hitB; rw [decide_eq_true h1, decide_eq_true h2]; rfl)]
        exact ev_ite_pos h2 (ev_some fun _ => rfl)
      · rw [if_neg (show ¬ hitB l p = true by unfold hitB; rw [decide_eq_false h2, Bool.and_false]; decide)]
        refine ev_ite_neg h2 ?_
        rw [next i (by omega)]
        exact ih
    · refine chosen_inot l hl (i : Int) p.f0 p.f1 p.f2 h1 _ 0 l.length 0 (by omega) ?_
      rw [if_neg (show ¬ hitB l p = true by unfold hitB; rw [decide_eq_false h1, Bool.false_and]; decide)]
      unfold endI
      refine ev_some_bind (islow_tells _) (ev_ite_neg (by omega) ?_)
      rw [next i (by omega)]
      exact ih
theorem chosen_same (l : List S111) (hl : l.length ≤ 1048576) : ∃ r : Int × Bool, Ev (fun k => spec_ChosenIn.f k l) r ∧ Ev (fun k => impl_ChosenIn.f k l) r := by
  unfold spec_ChosenIn.f impl_ChosenIn.f
  have hg := sgood_tells l hl
  rw [igood_tells]
  cases h : placesB l with
  | false =>
    rw [h] at hg
    exact ⟨(0, false), ev_bind hg (ev_ite_neg (by simp) (ev_some fun _ => rfl)), ev_some fun _ => rfl⟩
  | true =>
    rw [h] at hg
    obtain ⟨a, b, _⟩ := placesB_ok h
    have s := chosen_s l hl l.length 0 (by omega)
    have i := chosen_i l hl (slow_pos a b) l.length 0 (by omega)
    exact ⟨_, ev_bind hg (ev_ite_pos rfl s), i⟩
theorem FnExactChosenIn : laws_FnExactChosenIn.Good := by
  intro l0 ⟨hm, _⟩
  refine Ev.rounds ?_
  unfold laws_FnExactChosenIn.f
  rw [szplace l0 hm]
  refine Ev.congr (fun k => Option.bind_some ..) ?_
  by_cases hg : 1048576 < (l0.length : Int)
  · rw [if_pos hg]
    exact ev_ite_pos (by decide) (ev_some fun _ => rfl)
  rw [if_neg hg]
  refine ev_ite_neg (by omega) ?_
  have hT := toPlace_tells l0 (by omega)
  have hl : (l0.map convPlace).length ≤ 1048576 := by simp; omega
  generalize l0.map convPlace = t at hT hl
  obtain ⟨r, hs, hi⟩ := chosen_same t hl
  refine ev_bind hT (ev_bind hs (ev_bind hT (ev_bind hi (ev_ite_pos rfl ?_))))
  refine Ev.step (fun k => by rw [laws_FnExactChosenIn.j0]) ?_
  exact ev_ite_neg (by simp) (ev_bind hT (ev_bind (eqPlace_tells t (by omega)) (ev_some fun _ => rfl)))

end Go.Proofs.Ytlabpbkeaelecaa.Pure
