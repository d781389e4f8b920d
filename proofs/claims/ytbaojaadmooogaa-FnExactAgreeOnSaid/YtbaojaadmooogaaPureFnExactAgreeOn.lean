/- The law FnExactAgreeOn: the program's function tells what the reference tells, for all arguments; here: of the two as plain functions of numbers and lists. -/
import Derived.Test.YtbaojaadmooogaaQFnExactAgreeOn
namespace Go.Proofs.Ytbaojaadmooogaa.Pure
open Go.RowKit Go.Proofs.Ytbaojaadmooogaa.PFnExactAgreeOn Go.Proofs.YtbaojaadmooogaaW.PrintWords Go.Proofs.YtbaojaadmooogaaW.PrintLast Go.Proofs.YtbaojaadmooogaaW.PrintMore
set_option linter.unusedVariables false
set_option linter.unusedSimpArgs false
set_option linter.unnecessarySimpa false

def inB (a b x : Int) : Bool := decide (a ≤ x) && decide (x ≤ b)
theorem drop_at (l : List Int) (i : Nat) (h : i < l.length) : l.drop i = l.getD i 0 :: l.drop (i + 1) := by
  rw [List.drop_eq_getElem_cons h]
  simp [List.getD, List.getElem?_eq_getElem h]
/-- What a search for a fault comes to, round by round. -/
theorem all_ends {F : Nat → Nat → Option Bool} {p : Nat → Bool} {r : Bool} {n : Nat} (stop : Ev (fun k => F k n) r) (go : ∀ i, i < n → p i = true → ∀ q, Ev (fun k => F k (i + 1)) q → Ev (fun k => F k i) q) (no : ∀ i, i < n → p i = false → Ev (fun k => F k i) false) :
    ∀ (d i : Nat), i + d = n → Ev (fun k => F k i) ((List.range' i d).all p && r)
  | 0, i, h => by
    obtain rfl : i = n := by omega
    simpa using stop
  | d + 1, i, h => by
    have ih := all_ends stop go no d (i + 1) (by omega)
    rw [List.range'_succ, List.all_cons, Bool.and_assoc]
    cases hp : p i with
    | true => simpa using go i (by omega) hp _ ih
    | false => simpa using no i (by omega) hp
theorem all_from {F : Nat → Nat → Option Bool} {p : Nat → Bool} {r : Bool} {n : Nat} (stop : Ev (fun k => F k n) r) (go : ∀ i, i < n → p i = true → ∀ q, Ev (fun k => F k (i + 1)) q → Ev (fun k => F k i) q) (no : ∀ i, i < n → p i = false → Ev (fun k => F k i) false) :
    Ev (fun k => F k 0) ((List.range n).all p && r) := by
  rw [List.range_eq_range']
  exact all_ends stop go no n 0 (by omega)
theorem next (i : Nat) (h : i < 4611686018427387904) : wrap64 ((i : Int) + 1) = ((i + 1 : Nat) : Int) := by
  rw [w64 (by omega) (by omega)]
  omega

abbrev Ris (l : List Int) : Prop := l.Pairwise (· < ·)
theorem ris_of_next : ∀ {l : List Int}, (∀ i, i + 1 < l.length → l.getD i 0 < l.getD (i + 1) 0) → Ris l
  | [], _ => List.Pairwise.nil
  | [a], _ => by simp
  | a :: b :: l, h => by
    have h1 : Ris (b :: l) := ris_of_next fun i hi => by
      have := h (i + 1) (by simpa using hi)
      simpa using this
    have h2 := List.pairwise_cons.1 h1
    have hab : a < b := by simpa using h 0 (by simp)
    refine List.pairwise_cons.2 ⟨fun y hy => ?_, h1⟩
    rcases List.mem_cons.1 hy with e | e
    · omega
    · have := h2.1 y e
      omega
theorem rise_ris {l : List Int} {a b : Int} (h : riseB l a b = true) : Ris l ∧ ∀ x ∈ l, a ≤ x ∧ x ≤ b := by
  unfold riseB okAt at h
  simp only [List.all_eq_true, List.mem_range, Bool.and_eq_true, Bool.or_eq_true, decide_eq_true_eq] at h
  refine ⟨ris_of_next fun i hi => ?_, fun x hx => ?_⟩
  · have := (h (i + 1) hi).2
    rcases this with e | e
    · omega
    · simpa using e
  · obtain ⟨i, hi, rfl⟩ := List.mem_iff_getElem.1 hx
    have := (h i hi).1
    simpa [List.getD, List.getElem?_eq_getElem hi] using this

theorem has_l (l : List Int) (x : Int) (hl : l.length ≤ 4611686018427387903) : ∀ (d i : Nat), i + d = l.length → Ev (fun k => spec_l1Has.l0 k x l (l.length : Int) (i : Int)) (decide (x ∈ l.drop i))
  | 0, i, h => ev_stop fun k => by
    rw [spec_l1Has.l0, if_neg (by omega), List.drop_of_length_le (by omega)]
    simp
  | d + 1, i, h => by
    have ih := has_l l x hl d (i + 1) (by omega)
    rw [drop_at l i (by omega)]
    by_cases hx : l.getD i 0 = x
    · exact ev_stop fun k => by
        rw [spec_l1Has.l0, if_pos (by omega), if_pos (by omega), if_pos (by omega), rdn, if_pos hx, hx]
        simp
    · refine ev_step (r := decide (x ∈ l.getD i 0 :: l.drop (i + 1))) (by
        have e : decide (x ∈ l.getD i 0 :: l.drop (i + 1)) = decide (x ∈ l.drop (i + 1)) := decide_eq_decide.2 (by
          rw [List.mem_cons]
          exact ⟨fun h => h.resolve_left (fun h => hx h.symm), .inr⟩)
        rw [e]
        exact ih) fun k => by
        rw [spec_l1Has.l0, if_pos (by omega), if_pos (by omega), if_pos (by omega), rdn, if_neg hx, next i (by omega)]
theorem has_tells (l : List Int) (x : Int) (hl : l.length ≤ 4611686018427387903) : Ev (fun k => spec_l1Has.f k l x) (decide (x ∈ l)) := by
  have h := has_l l x hl l.length 0 (by omega)
  rw [List.drop_zero] at h
  exact h

theorem sin_tells (a b c : Int) : spec_l1In.f a b c = some (decide (b ≤ a) && decide (a ≤ c)) := by
  unfold spec_l1In.f
  by_cases h : a ≥ b
  · rw [if_pos h]; simp [show b ≤ a from h]
  · rw [if_neg h]; simp [show ¬ b ≤ a from h]

theorem sorted_le (l : List Int) : (l.mergeSort fun x y => decide (x ≤ y)).Pairwise (· ≤ ·) := by
  have h := List.pairwise_mergeSort (le := fun x y : Int => decide (x ≤ y)) (by intro a b c h1 h2; simp only [decide_eq_true_eq] at h1 h2 ⊢; omega) (by intro a b; simp only [Bool.or_eq_true, decide_eq_true_eq]; omega) l
  exact h.imp fun h => by simpa using h
theorem ris_rise {l : List Int} {a b : Int} (hu : Ris l) (hm : ∀ x ∈ l, a ≤ x ∧ x ≤ b) : riseB l a b = true := by
  unfold riseB okAt
  simp only [List.all_eq_true, List.mem_range, Bool.and_eq_true, Bool.or_eq_true, decide_eq_true_eq]
  intro i hi
  have e : l.getD i 0 = l[i] := by simp [List.getD, List.getElem?_eq_getElem hi]
  refine ⟨by rw [e]; exact hm _ (List.getElem_mem hi), ?_⟩
  by_cases h0 : i = 0
  · exact .inl h0
  · refine .inr ?_
    have hi' : i - 1 < l.length := by omega
    have e2 : l.getD (i - 1) 0 = l[i - 1] := by simp [List.getD, List.getElem?_eq_getElem hi']
    rw [e, e2]
    exact List.pairwise_iff_getElem.1 hu (i - 1) i hi' hi (by omega)
def onceP (l : List Int) : Prop := l.Nodup ∧ ∀ x ∈ l, 0 ≤ x ∧ x ≤ 11
theorem onceB_iff (l : List Int) : onceB l = true ↔ onceP l := by
  have hp := List.mergeSort_perm l (fun x y => decide (x ≤ y))
  unfold onceB onceP
  constructor
  · intro h
    obtain ⟨u, m⟩ := rise_ris h
    refine ⟨hp.nodup_iff.1 (u.imp fun h => by omega), fun x hx => m x (hp.mem_iff.2 hx)⟩
  · rintro ⟨hn, hm⟩
    refine ris_rise ?_ fun x hx => hm x (hp.mem_iff.1 hx)
    have h1 := sorted_le l
    have h2 : (l.mergeSort fun x y => decide (x ≤ y)).Pairwise (· ≠ ·) := hp.nodup_iff.2 hn
    exact (h1.and h2).imp fun h => by omega
def onceAt (l : List Int) (i : Nat) : Bool := inB 0 11 (l.getD i 0) && !decide (l.getD i 0 ∈ l.take i)
theorem onceAll_iff (l : List Int) : (List.range l.length).all (onceAt l) = true ↔ onceP l := by
  unfold onceP onceAt inB
  simp only [List.all_eq_true, List.mem_range, Bool.and_eq_true, decide_eq_true_eq, Bool.not_eq_true', decide_eq_false_iff_not]
  have eg : ∀ i (h : i < l.length), l.getD i 0 = l[i] := fun i h => by simp [List.getD, List.getElem?_eq_getElem h]
  constructor
  · intro h
    refine ⟨List.pairwise_iff_getElem.2 fun i j hi hj hij e => ?_, fun x hx => ?_⟩
    · refine (h j hj).2 ?_
      rw [eg j hj, ← e]
      exact List.mem_take_iff_getElem.2 ⟨i, by omega, rfl⟩
    · obtain ⟨i, hi, rfl⟩ := List.mem_iff_getElem.1 hx
      have := (h i hi).1
      rwa [eg i hi] at this
  · rintro ⟨hn, hm⟩ i hi
    rw [eg i hi]
    refine ⟨hm _ (List.getElem_mem hi), fun hx => ?_⟩
    obtain ⟨j, hj, e⟩ := List.mem_take_iff_getElem.1 hx
    exact List.pairwise_iff_getElem.1 hn j i (by omega) hi (by omega) e
theorem once_same (l : List Int) : (List.range l.length).all (onceAt l) = onceB l := by
  rw [Bool.eq_iff_iff, onceAll_iff, onceB_iff]
theorem sonce_tells (l : List Int) (hl : l.length ≤ 1048576) : Ev (fun k => spec_l14Once.f k 12 l) (onceB l) := by
  rw [← once_same]
  have round : ∀ (i : Nat), i < l.length → ∀ q, Ev (fun k => if onceAt l i = true then spec_l14Once.l0 k 12 l l (l.length : Int) ((i + 1 : Nat) : Int) else some false) q → Ev (fun k => spec_l14Once.l0 k 12 l l (l.length : Int) (i : Int)) q := by
    intro i hi q hq
    refine Ev.step (f := fun k => if inB 0 11 (l.getD i 0) = true then ((spec_l1Has.f k (l.take i) (l.getD i 0)).bind fun t => if t = true then some false else spec_l14Once.l0 k 12 l l (l.length : Int) ((i + 1 : Nat) : Int)) else some false) (fun k => ?_) ?_
    · rw [spec_l14Once.l0, if_pos (by omega), if_pos (by omega), if_pos (by omega), sin_tells, Option.bind_some, show wrap64 ((12 : Int) - 1) = 11 from by unfold wrap64; omega, rdn, next i (by omega), Int.toNat_natCast, if_pos (show (i : Int) ≤ (l.length : Int) by omega)]
      rfl
    · unfold onceAt at hq
      have hh := has_tells (l.take i) (l.getD i 0) (by rw [List.length_take]; omega)
      generalize decide (l.getD i 0 ∈ l.take i) = v at hq hh
      generalize inB 0 11 (l.getD i 0) = u at hq ⊢
      cases u with
      | false => exact ev_ite_neg (by simp) (by simpa using hq)
      | true =>
        refine ev_ite_pos rfl (ev_bind hh ?_)
        cases v with
        | true => exact ev_ite_pos rfl (by simpa using hq)
        | false => exact ev_ite_neg (by simp) (by simpa using hq)
  have hh := all_from (F := fun k i => spec_l14Once.l0 k 12 l l (l.length : Int) (i : Int)) (p := onceAt l) (r := true) (n := l.length) (ev_stop fun k => by rw [spec_l14Once.l0, if_neg (by omega)]) (fun i hi hp q hq => round i hi q (ev_ite_pos hp hq)) (fun i hi hp => round i hi _ (ev_ite_neg (by rw [hp]; decide) (ev_some fun _ => rfl)))
  rw [Bool.and_true] at hh
  exact hh

theorem sall_l (l : List Int) (a b : Int) (hl : l.length ≤ 4611686018427387904) : ∀ (d i : Nat), i + d = l.length → Ev (fun k => spec_l1All.l0 k a b l (l.length : Int) (i : Int)) ((l.drop i).all (inB a b))
  | 0, i, h => ev_stop fun k => by
    rw [spec_l1All.l0, if_neg (by omega), List.drop_of_length_le (by omega)]
    rfl
  | d + 1, i, h => by
    have ih := sall_l l a b hl d (i + 1) (by omega)
    have h1 : wrap64 ((i : Int) + 1) = ((i + 1 : Nat) : Int) := by rw [w64 (by omega) (by omega)]; omega
    rw [drop_at l i (by omega), List.all_cons]
    refine Ev.step (f := fun k => if inB a b (l.getD i 0) = true then spec_l1All.l0 k a b l (l.length : Int) ((i + 1 : Nat) : Int) else some false) (fun k => by
      rw [spec_l1All.l0, if_pos (by omega), if_pos (by omega), if_pos (by omega), sin_tells, Option.bind_some, h1, rdn]
      rfl) ?_
    cases inB a b (l.getD i 0) with
    | true => simpa using ih
    | false => exact ⟨0, fun k _ => by simp⟩
theorem sall_tells (l : List Int) (a b : Int) (hl : l.length ≤ 4611686018427387904) : Ev (fun k => spec_l1All.f k l a b) (l.all (inB a b)) := by
  have h := sall_l l a b hl l.length 0 (by omega)
  rw [List.drop_zero] at h
  exact h

theorem toints_l (l : List Int) (hl : l.length ≤ 4611686018427387904) : ∀ (d i : Nat) (m : List Int), m.length = l.length → i + d = l.length → m.take i = l.take i → Ev (fun k => laws_toIntS.l0 k l m (i : Int)) l
  | 0, i, m, hm, h, ht => ev_stop fun k => by
    rw [laws_toIntS.l0, if_neg (by omega)]
    rw [List.take_of_length_le (by omega), List.take_of_length_le (by omega)] at ht
    rw [ht]
  | d + 1, i, m, hm, h, ht => by
    have h1 : wrap64 ((i : Int) + 1) = ((i + 1 : Nat) : Int) := by rw [w64 (by omega) (by omega)]; omega
    refine ev_step (toints_l l hl d (i + 1) (m.set i (l.getD i 0)) (by simpa using hm) (by omega) ?_) fun k => by
      rw [laws_toIntS.l0, if_pos (by omega), if_pos (by omega), if_pos (by omega), h1, rdn, Int.toNat_natCast]
    rw [List.take_succ_eq_append_getElem (by simp; omega), List.take_succ_eq_append_getElem (by omega), List.take_set_of_le (Nat.le_refl i), ht]
    simp [List.getD, List.getElem?_eq_getElem (show i < l.length by omega)]
theorem toints_tells (l : List Int) (hl : l.length ≤ 35184372088832) : Ev (fun k => laws_toIntS.f k l) l := by
  refine Ev.congr (g := fun k => laws_toIntS.f k l) (fun k => ?_) (toints_l l (by omega) l.length 0 (List.replicate l.length 0) (by simp) (by omega) (by simp))
  unfold laws_toIntS.f
  rw [if_pos (by omega), if_pos (by omega), Int.toNat_natCast]
  rfl

theorem eqints_l (l : List Int) (hl : l.length ≤ 4611686018427387904) : ∀ (d i : Nat), i + d = l.length → Ev (fun k => laws_eqIntS.l0 k l l (i : Int)) true
  | 0, i, h => ev_stop fun k => by
    rw [laws_eqIntS.l0, if_neg (by omega)]
  | d + 1, i, h => by
    have h1 : wrap64 ((i : Int) + 1) = ((i + 1 : Nat) : Int) := by rw [w64 (by omega) (by omega)]; omega
    refine ev_step (eqints_l l hl d (i + 1) (by omega)) fun k => by
      rw [laws_eqIntS.l0, if_pos (by omega), if_pos (by omega), if_pos (by omega), if_pos rfl, h1]
theorem eqints_tells (l : List Int) (hl : l.length ≤ 4611686018427387904) : Ev (fun k => laws_eqIntS.f k l l) true := by
  refine Ev.congr (g := fun k => laws_eqIntS.f k l l) (fun k => ?_) (eqints_l l hl l.length 0 (by omega))
  unfold laws_eqIntS.f
  rw [if_pos rfl]
  rfl

theorem at_l (a : List Int) (x : Int) (ha : a.length ≤ 1048576) : ∀ (d i : Nat), i + d = a.length → (∀ j, j < i → decide (x = a.getD j 0) = false) → Ev (fun k => spec_l3At.l0 k x a (a.length : Int) (i : Int)) (idxI a x)
  | 0, i, h, hn => ev_stop fun k => by
    obtain rfl : i = a.length := by omega
    rw [spec_l3At.l0, if_neg (by omega)]
    unfold idxI
    rw [idxF_miss (fun n => decide (x = n)) a 0 hn]
  | d + 1, i, h, hn => by
    by_cases hx : x = a.getD i 0
    · refine ev_stop fun k => ?_
      rw [spec_l3At.l0, if_pos (by omega), if_pos (by omega), if_pos (by omega), rdn, if_pos hx.symm]
      unfold idxI
      rw [idxF_hit (fun n => decide (x = n)) a 0 i (by omega) (decide_eq_true hx) hn]
    · have ih := at_l a x ha d (i + 1) (by omega) (fun j hj => by
        by_cases e : j = i
        · subst e
          exact decide_eq_false hx
        · exact hn j (by omega))
      exact ev_step ih fun k => by rw [spec_l3At.l0, if_pos (by omega), if_pos (by omega), if_pos (by omega), rdn, if_neg (fun e => hx e.symm), next i (by omega)]
theorem at_tells (a : List Int) (x : Int) (ha : a.length ≤ 1048576) : Ev (fun k => spec_l3At.f k a x) (idxI a x) := at_l a x ha a.length 0 (by omega) (fun j hj => absurd hj (Nat.not_lt_zero _))
theorem hasP_eq (a : List Int) (p : Int) : hasP a p = (decide (quoP p ∈ a) && decide (remP p ∈ a)) := by
  unfold hasP
  simp [List.contains_iff_mem]
theorem agree_l (a b ps : List Int) (ha : a.length ≤ 1048576) (hb : b.length ≤ 1048576) (hp : ps.length ≤ 60) : ∀ (d i : Nat), i + d = ps.length → Ev (fun k => spec_AgreeOn.l0 k a b ps (ps.length : Int) (i : Int)) ((ps.drop i).all (pairB a b), true)
  | 0, i, h => ev_stop fun k => by
    rw [spec_AgreeOn.l0, if_neg (by omega), List.drop_of_length_le (by omega)]
    rfl
  | d + 1, i, h => by
    have ih := agree_l a b ps ha hb hp d (i + 1) (by omega)
    rw [drop_at ps i (by omega), List.all_cons]
    generalize hpi : ps.getD i 0 = p
    have skip : Ev (fun k => spec_AgreeOn.j2 k a b (quoP p) (remP p) ps (ps.length : Int) (i : Int) true) ((ps.drop (i + 1)).all (pairB a b), true) := Ev.step (fun k => by rw [spec_AgreeOn.j2, if_pos rfl, next i (by omega)]) ih
    refine Ev.step (f := fun k => (spec_l1Has.f k a (quoP p)).bind fun t => if t = true then ((spec_l1Has.f k a (remP p)).bind fun t => if t = true then ((spec_l1Has.f k b (quoP p)).bind fun t => if t = true then ((spec_l1Has.f k b (remP p)).bind fun t => spec_AgreeOn.j2 k a b (quoP p) (remP p) ps (ps.length : Int) (i : Int) (!t)) else spec_AgreeOn.j2 k a b (quoP p) (remP p) ps (ps.length : Int) (i : Int) true) else spec_AgreeOn.j2 k a b (quoP p) (remP p) ps (ps.length : Int) (i : Int) true) else spec_AgreeOn.j2 k a b (quoP p) (remP p) ps (ps.length : Int) (i : Int) true) (fun k => ?_) ?_
    · rw [spec_AgreeOn.l0, if_pos (by omega), if_pos (by omega), if_pos (by omega), rdn, hpi]
      rfl
    · have e : pairB a b p = (!((decide (quoP p ∈ a) && decide (remP p ∈ a)) && (decide (quoP p ∈ b) && decide (remP p ∈ b))) || (decide (idxI a (quoP p) < idxI a (remP p)) == decide (idxI b (quoP p) < idxI b (remP p)))) := by
        unfold pairB
        rw [hasP_eq, hasP_eq]
      rw [e]
      refine ev_bind (has_tells a (quoP p) (by omega)) ?_
      cases decide (quoP p ∈ a) with
      | false => exact ev_ite_neg (by simp) (by simpa using skip)
      | true =>
        refine ev_ite_pos rfl (ev_bind (has_tells a (remP p) (by omega)) ?_)
        cases decide (remP p ∈ a) with
        | false => exact ev_ite_neg (by simp) (by simpa using skip)
        | true =>
          refine ev_ite_pos rfl (ev_bind (has_tells b (quoP p) (by omega)) ?_)
          cases decide (quoP p ∈ b) with
          | false => exact ev_ite_neg (by simp) (by simpa using skip)
          | true =>
            refine ev_ite_pos rfl (ev_bind (has_tells b (remP p) (by omega)) ?_)
            cases decide (remP p ∈ b) with
            | false => simpa using skip
            | true =>
              refine Ev.step (fun k => by rw [spec_AgreeOn.j2, if_neg (by simp)]) ?_
              refine ev_bind (at_tells a _ ha) (ev_bind (at_tells a _ ha) (ev_bind (at_tells b _ hb) (ev_bind (at_tells b _ hb) ?_)))
              generalize decide (idxI a (quoP p) < idxI a (remP p)) = u
              generalize decide (idxI b (quoP p) < idxI b (remP p)) = v
              rw [next i (by omega)]
              cases u <;> cases v
              · exact ev_ite_neg (by simp) (by simpa using ih)
              · exact ev_ite_pos (by simp) (ev_some fun _ => by simp)
              · exact ev_ite_pos (by simp) (ev_some fun _ => by simp)
              · exact ev_ite_neg (by simp) (by simpa using ih)
theorem all_bad (ps : List Int) : (!ps.all (inB 0 143)) = ps.any badP := by
  induction ps with
  | nil => rfl
  | cons p ps ih =>
    rw [List.all_cons, List.any_cons, Bool.not_and, ih]
    rfl
theorem agree_same (a b ps : List Int) (ha : a.length ≤ 1048576) (hb : b.length ≤ 1048576) (hp : ps.length ≤ 1048576) : ∃ r : Bool × Bool, Ev (fun k => spec_AgreeOn.f k a b ps) r ∧ impl_AgreeOn.f a b ps = some r := by
  have no : Ev (fun k => spec_AgreeOn.j0 k a b ps true) (false, false) := ev_stop fun k => by rw [spec_AgreeOn.j0, if_pos rfl]
  have oa := sonce_tells a ha
  have ob := sonce_tells b hb
  unfold spec_AgreeOn.f impl_AgreeOn.f
  rw [if_pos ⟨ha, hb⟩]
  cases h1 : onceB a with
  | false =>
    rw [h1] at oa
    exact ⟨(false, false), ev_bind oa (ev_ite_neg (by simp) no), by simp⟩
  | true =>
    rw [h1] at oa
    cases h2 : onceB b with
    | false =>
      rw [h2] at ob
      exact ⟨(false, false), ev_bind oa (ev_ite_pos rfl (ev_bind ob (ev_ite_neg (by simp) no))), by simp⟩
    | true =>
      rw [h2] at ob
      by_cases h60 : ps.length > 60
      · exact ⟨(false, false), ev_bind oa (ev_ite_pos rfl (ev_bind ob (ev_ite_pos rfl (ev_ite_pos (by omega) no)))), by simp [h60]⟩
      · have sa := sall_tells ps 0 143 (by omega)
        have eb := all_bad ps
        cases h3 : ps.any badP with
        | true =>
          rw [h3] at eb
          refine ⟨(false, false), ev_bind oa (ev_ite_pos rfl (ev_bind ob (ev_ite_pos rfl (ev_ite_neg (by omega) (ev_bind sa ?_))))), by simp [h60]⟩
          rw [eb]
          exact no
        | false =>
          rw [h3] at eb
          have hl := agree_l a b ps ha hb (by omega) ps.length 0 (by omega)
          rw [List.drop_zero] at hl
          refine ⟨(ps.all (pairB a b), true), ev_bind oa (ev_ite_pos rfl (ev_bind ob (ev_ite_pos rfl (ev_ite_neg (by omega) (ev_bind sa ?_))))), by simp [h60]⟩
          rw [eb]
          exact ev_step hl fun k => by rw [spec_AgreeOn.j0, if_neg (by simp)]; rfl
theorem FnExactAgreeOn : laws_FnExactAgreeOn.Good := by
  intro l0 l1 l2 _ _ _
  refine Ev.rounds ?_
  unfold laws_FnExactAgreeOn.f
  by_cases g0 : (l0.length : Int) > 1048576
  · exact ev_ite_pos g0 (ev_some fun _ => rfl)
  refine ev_ite_neg g0 ?_
  by_cases g1 : (l1.length : Int) > 1048576
  · exact ev_ite_pos g1 (ev_some fun _ => rfl)
  refine ev_ite_neg g1 ?_
  by_cases g2 : (l2.length : Int) > 1048576
  · exact ev_ite_pos g2 (ev_some fun _ => rfl)
  refine ev_ite_neg g2 ?_
  have t0 := toints_tells l0 (by omega)
  have t1 := toints_tells l1 (by omega)
  have t2 := toints_tells l2 (by omega)
  obtain ⟨r, hs, hi⟩ := agree_same l0 l1 l2 (by omega) (by omega) (by omega)
  refine ev_bind t0 (ev_bind t1 (ev_bind t2 (ev_bind hs (ev_bind t0 (ev_bind t1 (ev_bind t2 (ev_some_bind hi (ev_ite_neg (by simp) ?_))))))))
  refine Ev.step (fun k => by rw [laws_FnExactAgreeOn.j0]) ?_
  exact ev_ite_neg (by simp) (ev_bind t0 (ev_bind (eqints_tells l0 (by omega)) (ev_ite_pos rfl (ev_bind t1 (ev_bind (eqints_tells l1 (by omega)) (ev_ite_pos rfl (ev_bind t2 (ev_bind (eqints_tells l2 (by omega)) (ev_ite_pos rfl (ev_some fun _ => rfl))))))))))

end Go.Proofs.Ytbaojaadmooogaa.Pure
