/- The law FnExactMissedBy: the program's function tells what the reference tells, for all arguments; here: of the two as plain functions of numbers and lists. -/
import Derived.Test.YtbaojaadmooogaaQFnExactMissedBy
namespace Go.Proofs.Ytbaojaadmooogaa.Pure
open Go.RowKit Go.Proofs.Ytbaojaadmooogaa.PFnExactMissedBy Go.Proofs.YtbaojaadmooogaaW.PrintWords Go.Proofs.YtbaojaadmooogaaW.PrintLast Go.Proofs.YtbaojaadmooogaaW.PrintMore
set_option linter.unusedVariables false
set_option linter.unusedSimpArgs false
set_option linter.unnecessarySimpa false

theorem sin_tells (a b c : Int) : spec_l1In.f a b c = some (decide (b ≤ a) && decide (a ≤ c)) := by
  unfold spec_l1In.f
  by_cases h : a ≥ b
  · rw [if_pos h]; simp [show b ≤ a from h]
  · rw [if_neg h]; simp [show ¬ b ≤ a from h]

def manyB (n : Int) : Bool := (decide (3 ≤ n) && decide (n ≤ 9)) && (Int.tmod n 2 == 1)
theorem many_tells (n : Int) : impl_isMany.f n = some (manyB n) := by
  unfold impl_isMany.f manyB
  rw [within_tells, Option.bind_some]
  cases (decide (3 ≤ n) && decide (n ≤ 9)) <;> simp
theorem smany_tells (n : Int) : spec_l11Places.f n = some (manyB n) := by
  unfold spec_l11Places.f manyB
  rw [sin_tells, Option.bind_some]
  cases (decide (3 ≤ n) && decide (n ≤ 9)) <;> simp
theorem many_bd {n : Int} (h : manyB n = true) : 3 ≤ n ∧ n ≤ 9 := by
  unfold manyB at h
  simp only [Bool.and_eq_true, decide_eq_true_eq] at h
  omega

def inB (a b x : Int) : Bool := decide (a ≤ x) && decide (x ≤ b)
theorem drop_at (l : List Int) (i : Nat) (h : i < l.length) : l.drop i = l.getD i 0 :: l.drop (i + 1) := by
  rw [List.drop_eq_getElem_cons h]
  simp [List.getD, List.getElem?_eq_getElem h]
/-- What a search for a fault comes to, round by round. -/
theorem all_ends {F : Nat → Nat → Option Bool} {p : Nat → Bool} {r : Bool} {n : Nat} (stop : Ev (fun k => F k n) r) (go : ∀ i, i < n → p i = true → ∀ q, Ev (fun k => F k (i + 1)) q → Ev (fun k => F k i) q) (no : ∀ i, i < n → p i = false → Ev (fun k => F k i) false) :
    ∀ (d i : Nat), i + d = n → Ev (fun k => F k i) ((List.range' i d).all p && r)
  | 0, i, h => by
    obtain rfl : i = n := by omega
    simpa using stop
  | d + 1, i, h => by
    have ih := all_ends stop go no d (i + 1) (by omega)
    rw [List.range'_succ, List.all_cons, Bool.and_assoc]
    cases hp : p i with
    | true => simpa using go i (by omega) hp _ ih
    | false => simpa using no i (by omega) hp
theorem all_from {F : Nat → Nat → Option Bool} {p : Nat → Bool} {r : Bool} {n : Nat} (stop : Ev (fun k => F k n) r) (go : ∀ i, i < n → p i = true → ∀ q, Ev (fun k => F k (i + 1)) q → Ev (fun k => F k i) q) (no : ∀ i, i < n → p i = false → Ev (fun k => F k i) false) :
    Ev (fun k => F k 0) ((List.range n).all p && r) := by
  rw [List.range_eq_range']
  exact all_ends stop go no n 0 (by omega)
theorem next (i : Nat) (h : i < 4611686018427387904) : wrap64 ((i : Int) + 1) = ((i + 1 : Nat) : Int) := by
  rw [w64 (by omega) (by omega)]
  omega

abbrev Ris (l : List Int) : Prop := l.Pairwise (· < ·)
theorem ris_of_next : ∀ {l : List Int}, (∀ i, i + 1 < l.length → l.getD i 0 < l.getD (i + 1) 0) → Ris l
  | [], _ => List.Pairwise.nil
  | [a], _ => by simp
  | a :: b :: l, h => by
    have h1 : Ris (b :: l) := ris_of_next fun i hi => by
      have := h (i + 1) (by simpa using hi)
      simpa using this
    have h2 := List.pairwise_cons.1 h1
    have hab : a < b := by simpa using h 0 (by simp)
    refine List.pairwise_cons.2 ⟨fun y hy => ?_, h1⟩
    rcases List.mem_cons.1 hy with e | e
    · omega
    · have := h2.1 y e
      omega
theorem rise_ris {l : List Int} {a b : Int} (h : riseB l a b = true) : Ris l ∧ ∀ x ∈ l, a ≤ x ∧ x ≤ b := by
  unfold riseB okAt at h
  simp only [List.all_eq_true, List.mem_range, Bool.and_eq_true, Bool.or_eq_true, decide_eq_true_eq] at h
  refine ⟨ris_of_next fun i hi => ?_, fun x hx => ?_⟩
  · have := (h (i + 1) hi).2
    rcases this with e | e
    · omega
    · simpa using e
  · obtain ⟨i, hi, rfl⟩ := List.mem_iff_getElem.1 hx
    have := (h i hi).1
    simpa [List.getD, List.getElem?_eq_getElem hi] using this

theorem sorted_le (l : List Int) : (l.mergeSort fun x y => decide (x ≤ y)).Pairwise (· ≤ ·) := by
  have h := List.pairwise_mergeSort (le := fun x y : Int => decide (x ≤ y)) (by intro a b c h1 h2; simp only [decide_eq_true_eq] at h1 h2 ⊢; omega) (by intro a b; simp only [Bool.or_eq_true, decide_eq_true_eq]; omega) l
  exact h.imp fun h => by simpa using h
theorem ris_rise {l : List Int} {a b : Int} (hu : Ris l) (hm : ∀ x ∈ l, a ≤ x ∧ x ≤ b) : riseB l a b = true := by
  unfold riseB okAt
  simp only [List.all_eq_true, List.mem_range, Bool.and_eq_true, Bool.or_eq_true, decide_eq_true_eq]
  intro i hi
  have e : l.getD i 0 = l[i] := by simp [List.getD, List.getElem?_eq_getElem hi]
  refine ⟨by rw [e]; exact hm _ (List.getElem_mem hi), ?_⟩
  by_cases h0 : i = 0
  · exact .inl h0
  · refine .inr ?_
    have hi' : i - 1 < l.length := by omega
    have e2 : l.getD (i - 1) 0 = l[i - 1] := by simp [List.getD, List.getElem?_eq_getElem hi']
    rw [e, e2]
    exact List.pairwise_iff_getElem.1 hu (i - 1) i hi' hi (by omega)
def onceM (m : Int) (l : List Int) : Bool := riseB (l.mergeSort fun x y => decide (x ≤ y)) 0 m
def onceP (m : Int) (l : List Int) : Prop := l.Nodup ∧ ∀ x ∈ l, 0 ≤ x ∧ x ≤ m
theorem onceM_iff (m : Int) (l : List Int) : onceM m l = true ↔ onceP m l := by
  have hp := List.mergeSort_perm l (fun x y => decide (x ≤ y))
  unfold onceM onceP
  constructor
  · intro h
    obtain ⟨u, m⟩ := rise_ris h
    refine ⟨hp.nodup_iff.1 (u.imp fun h => by omega), fun x hx => m x (hp.mem_iff.2 hx)⟩
  · rintro ⟨hn, hm⟩
    refine ris_rise ?_ fun x hx => hm x (hp.mem_iff.1 hx)
    have h1 := sorted_le l
    have h2 : (l.mergeSort fun x y => decide (x ≤ y)).Pairwise (· ≠ ·) := hp.nodup_iff.2 hn
    exact (h1.and h2).imp fun h => by omega

theorem sall_l (l : List Int) (a b : Int) (hl : l.length ≤ 4611686018427387904) : ∀ (d i : Nat), i + d = l.length → Ev (fun k => spec_l1All.l0 k a b l (l.length : Int) (i : Int)) ((l.drop i).all (inB a b))
  | 0, i, h => ev_stop fun k => by
    rw [spec_l1All.l0, if_neg (by omega), List.drop_of_length_le (by omega)]
    rfl
  | d + 1, i, h => by
    have ih := sall_l l a b hl d (i + 1) (by omega)
    have h1 : wrap64 ((i : Int) + 1) = ((i + 1 : Nat) : Int) := by rw [w64 (by omega) (by omega)]; omega
    rw [drop_at l i (by omega), List.all_cons]
    refine Ev.step (f := fun k => if inB a b (l.getD i 0) = true then spec_l1All.l0 k a b l (l.length : Int) ((i + 1 : Nat) : Int) else some false) (fun k => by
      rw [spec_l1All.l0, if_pos (by omega), if_pos (by omega), if_pos (by omega), sin_tells, Option.bind_some, h1, rdn]
      rfl) ?_
    cases inB a b (l.getD i 0) with
    | true => simpa using ih
    | false => exact ⟨0, fun k _ => by simp⟩
theorem sall_tells (l : List Int) (a b : Int) (hl : l.length ≤ 4611686018427387904) : Ev (fun k => spec_l1All.f k l a b) (l.all (inB a b)) := by
  have h := sall_l l a b hl l.length 0 (by omega)
  rw [List.drop_zero] at h
  exact h

theorem has_l (l : List Int) (x : Int) (hl : l.length ≤ 4611686018427387903) : ∀ (d i : Nat), i + d = l.length → Ev (fun k => spec_l1Has.l0 k x l (l.length : Int) (i : Int)) (decide (x ∈ l.drop i))
  | 0, i, h => ev_stop fun k => by
    rw [spec_l1Has.l0, if_neg (by omega), List.drop_of_length_le (by omega)]
    simp
  | d + 1, i, h => by
    have ih := has_l l x hl d (i + 1) (by omega)
    rw [drop_at l i (by omega)]
    by_cases hx : l.getD i 0 = x
    · exact ev_stop fun k => by
        rw [spec_l1Has.l0, if_pos (by omega), if_pos (by omega), if_pos (by omega), rdn, if_pos hx, hx]
        simp
    · refine ev_step (r := decide (x ∈ l.getD i 0 :: l.drop (i + 1))) (by
        have e : decide (x ∈ l.getD i 0 :: l.drop (i + 1)) = decide (x ∈ l.drop (i + 1)) := decide_eq_decide.2 (by
          rw [List.mem_cons]
          exact ⟨fun h => h.resolve_left (fun h => hx h.symm), .inr⟩)
        rw [e]
        exact ih) fun k => by
        rw [spec_l1Has.l0, if_pos (by omega), if_pos (by omega), if_pos (by omega), rdn, if_neg hx, next i (by omega)]
theorem has_tells (l : List Int) (x : Int) (hl : l.length ≤ 4611686018427387903) : Ev (fun k => spec_l1Has.f k l x) (decide (x ∈ l)) := by
  have h := has_l l x hl l.length 0 (by omega)
  rw [List.drop_zero] at h
  exact h

theorem perm_full : ∀ (a b : List Int), a.Nodup → (∀ x ∈ a, x ∈ b) → b.length ≤ a.length → a.Perm b
  | [], b, _, _, h => by
    have e : b = [] := List.length_eq_zero_iff.1 (by simpa using h)
    subst e
    exact .refl _
  | x :: a, b, hn, hs, h => by
    obtain ⟨hx, hn⟩ := List.nodup_cons.1 hn
    have hm := hs x (by simp)
    have ih := perm_full a (b.erase x) hn (fun y hy => (List.mem_erase_of_ne (fun e => hx (by rw [← e]; exact hy))).2 (hs y (by simp [hy]))) (by
      rw [List.length_erase_of_mem hm]
      rw [List.length_cons] at h
      omega)
    exact (ih.cons x).trans (List.perm_cons_erase hm).symm
def upTo (n : Nat) : List Int := (List.range n).map Int.ofNat
theorem upTo_mem (n : Nat) (x : Int) : x ∈ upTo n ↔ 0 ≤ x ∧ x < n := by
  unfold upTo
  rw [List.mem_map]
  constructor
  · rintro ⟨j, hj, rfl⟩
    have := List.mem_range.1 hj
    exact ⟨by simp, by simp; omega⟩
  · rintro ⟨h0, h1⟩
    exact ⟨x.toNat, List.mem_range.2 (by omega), by simp; omega⟩
theorem upTo_nodup (n : Nat) : (upTo n).Nodup := by
  unfold upTo
  refine List.pairwise_map.2 (List.nodup_range.imp fun {a b} h e => h ?_)
  have e2 : (a : Int) = (b : Int) := e
  omega
theorem upTo_len (n : Nat) : (upTo n).length = n := by simp [upTo]
def fullB (n : Nat) (o : List Int) : Bool := (decide (o.length = n) && o.all (inB 0 ((n : Int) - 1))) && (List.range' 0 n).all fun (j : Nat) => decide ((j : Int) ∈ o)
theorem ord_same (n : Nat) (hn : n ≤ 8) (o : List Int) : badOrd (n : Int) o = !fullB n o := by
  have e : wrap64 ((n : Int) - 1) = (n : Int) - 1 := w64 (by omega) (by omega)
  unfold badOrd fullB
  rw [e]
  by_cases hl : o.length = n
  · rw [decide_eq_true hl, decide_eq_true (show (o.length : Int) = (n : Int) by omega), Bool.true_and, Bool.not_true, Bool.false_or]
    refine congrArg _ ?_
    change onceM ((n : Int) - 1) o = _
    rw [Bool.eq_iff_iff, onceM_iff]
    unfold onceP inB
    simp only [Bool.and_eq_true, List.all_eq_true, decide_eq_true_eq]
    constructor
    · rintro ⟨hd, hm⟩
      have hp := perm_full o (upTo n) hd (fun x hx => (upTo_mem n x).2 ⟨(hm x hx).1, by have := (hm x hx).2; omega⟩) (by rw [upTo_len]; omega)
      refine ⟨hm, fun j hj => hp.mem_iff.2 ((upTo_mem n j).2 ?_)⟩
      have := List.mem_range'_1.1 hj
      omega
    · rintro ⟨hm, ha⟩
      have hp := perm_full (upTo n) o (upTo_nodup n) (fun x hx => by
        obtain ⟨h0, h1⟩ := (upTo_mem n x).1 hx
        have := ha x.toNat (List.mem_range'_1.2 (by omega))
        rwa [Int.toNat_of_nonneg h0] at this) (by rw [upTo_len]; omega)
      exact ⟨hp.nodup_iff.1 (upTo_nodup n), hm⟩
  · rw [decide_eq_false hl, decide_eq_false (show ¬ (o.length : Int) = (n : Int) by omega)]
    rfl
theorem gh_l2 (n : Nat) (hn : n ≤ 8) (o : List Int) (ho : o.length ≤ 1048576) (os : List (List Int)) (m j : Int) (q : Bool) (hq : Ev (fun k => spec_GoodHeard.l1 k (n : Int) os m (wrap64 (j + 1))) q) : ∀ (d i : Nat), i + d = n → Ev (fun k => spec_GoodHeard.l2 k (n : Int) o (i : Int) os m j) ((List.range' i d).all (fun (j : Nat) => decide ((j : Int) ∈ o)) && q)
  | 0, i, h => ev_step hq fun k => by
    rw [spec_GoodHeard.l2, if_neg (by omega)]
  | d + 1, i, h => by
    have ih := gh_l2 n hn o ho os m j q hq d (i + 1) (by omega)
    refine Ev.step (f := fun k => (spec_l1Has.f k o (i : Int)).bind fun t => if t = true then spec_GoodHeard.l2 k (n : Int) o ((i + 1 : Nat) : Int) os m j else some false) (fun k => by rw [spec_GoodHeard.l2, if_pos (by omega), next i (by omega)]) (ev_bind (has_tells o i (by omega)) ?_)
    rw [List.range'_succ, List.all_cons]
    cases decide ((i : Int) ∈ o) with
    | true => exact ev_ite_pos rfl (by rw [Bool.true_and]; exact ih)
    | false => exact ev_ite_neg (by simp) (ev_some fun _ => by simp)
theorem rdL1h (os : List (List Int)) (i : Nat) : rd_L1 os (i : Int) = os.getD i [] := by simp [rd_L1]
theorem gh_l1 (n : Nat) (hn : n ≤ 8) (os : List (List Int)) (hos : os.length ≤ 1048576) (hr : ∀ x ∈ os, x.length ≤ 1048576) : ∀ (d i : Nat), i + d = os.length → Ev (fun k => spec_GoodHeard.l1 k (n : Int) os (os.length : Int) (i : Int)) ((os.drop i).all (fullB n))
  | 0, i, h => ev_stop fun k => by
    rw [spec_GoodHeard.l1, if_neg (by omega), List.drop_of_length_le (by omega)]
    rfl
  | d + 1, i, h => by
    have ih := gh_l1 n hn os hos hr d (i + 1) (by omega)
    have hi : i < os.length := by omega
    have eg : os.getD i [] = os[i] := by simp [List.getD, List.getElem?_eq_getElem hi]
    rw [List.drop_eq_getElem_cons hi, List.all_cons]
    have ho := hr os[i] (List.getElem_mem hi)
    have e : wrap64 ((n : Int) - 1) = (n : Int) - 1 := w64 (by omega) (by omega)
    generalize hx : os[i] = o at ho eg
    have no : Ev (fun k => spec_GoodHeard.j3 k (n : Int) o os (os.length : Int) (i : Int) true) false := ev_stop fun k => by rw [spec_GoodHeard.j3, if_pos rfl]
    refine Ev.step (f := fun k => if (o.length : Int) = (n : Int) then ((spec_l1All.f k o 0 ((n : Int) - 1)).bind fun t => spec_GoodHeard.j3 k (n : Int) o os (os.length : Int) (i : Int) (!t)) else spec_GoodHeard.j3 k (n : Int) o os (os.length : Int) (i : Int) true) (fun k => by rw [spec_GoodHeard.l1, if_pos (by omega), if_pos (by omega), if_pos (by omega), rdL1h, eg, e]) ?_
    unfold fullB
    by_cases hl : o.length = n
    · refine ev_ite_pos (by omega) (ev_bind (sall_tells o 0 ((n : Int) - 1) (by omega)) ?_)
      rw [decide_eq_true hl, Bool.true_and]
      cases o.all (inB 0 ((n : Int) - 1)) with
      | false => exact no
      | true =>
        refine Ev.step (fun k => by rw [spec_GoodHeard.j3, if_neg (by simp)]) ?_
        have h2 := gh_l2 n hn o (by omega) os (os.length : Int) (i : Int) _ (by rw [next i (by omega)]; exact ih) n 0 (by omega)
        rw [Bool.true_and]
        exact h2
    · rw [decide_eq_false hl]
      exact ev_ite_neg (by omega) no
theorem gh_l0 (n : Nat) (hn : n ≤ 8) (a : Int) (ds : List S88) (hd : ds.length = n) (os : List (List Int)) (hos : os.length ≤ 1048576) (hr : ∀ x ∈ os, x.length ≤ 1048576) : ∀ (d i : Nat), i + d = ds.length → Ev (fun k => spec_GoodHeard.l0 k (n : Int) ds (ds.length : Int) (i : Int) a ds os) ((ds.drop i).all (fun x => !badDeed x) && os.all (fullB n))
  | 0, i, h => by
    have h1 := gh_l1 n hn os hos hr os.length 0 (by omega)
    rw [List.drop_zero] at h1
    rw [List.drop_of_length_le (by omega)]
    exact ev_step h1 fun k => by
      rw [spec_GoodHeard.l0, if_neg (by omega)]
      try rfl
  | d + 1, i, h => by
    have ih := gh_l0 n hn a ds hd os hos hr d (i + 1) (by omega)
    have hi : i < ds.length := by omega
    have eg : rd_T88 ds (i : Int) = ds[i] := by simp [rd_T88, List.getD, List.getElem?_eq_getElem hi]
    rw [List.drop_eq_getElem_cons hi, List.all_cons]
    generalize ds[i] = x at eg
    refine Ev.step (f := fun k => if (!badDeed x) = true then spec_GoodHeard.l0 k (n : Int) ds (ds.length : Int) ((i + 1 : Nat) : Int) a ds os else some false) (fun k => ?_) ?_
    · rw [spec_GoodHeard.l0, if_pos (by omega), if_pos (by omega), if_pos (by omega), eg, next i (by omega)]
      unfold spec_l13Deed.f
      rw [sin_tells, Option.bind_some, Option.bind_some]
      unfold badDeed
      rw [Bool.not_not]
    · cases badDeed x with
      | false => exact ev_ite_pos rfl (by simpa using ih)
      | true => exact ev_ite_neg (by simp) (ev_some fun _ => by simp)
def goodH (a : Int) (ds : List S88) (os : List (List Int)) : Bool := manyB a && decide ((ds.length : Int) ≤ 8) && decide ((os.length : Int) = a) && !(ds.any badDeed) && !(os.any (badOrd (ds.length : Int)))
theorem heard_i (a : Int) (ds : List S88) (os : List (List Int)) (hr : ∀ x ∈ os, x.length ≤ 1048576) : impl_GoodHeard.f a ds os = some (goodH a ds os) := by
  unfold impl_GoodHeard.f goodH
  rw [if_pos (List.all_eq_true.2 fun x hx => decide_eq_true (hr x hx)), many_tells, Option.bind_some]
theorem heard_s (a : Int) (ds : List S88) (os : List (List Int)) (hos : os.length ≤ 1048576) (hr : ∀ x ∈ os, x.length ≤ 1048576) : Ev (fun k => spec_GoodHeard.f k a ds os) (goodH a ds os) := by
  have no : Ev (fun k => spec_GoodHeard.j0 k (ds.length : Int) true a ds os) false := ev_stop fun k => by rw [spec_GoodHeard.j0, if_pos rfl]
  unfold spec_GoodHeard.f goodH
  refine ev_some_bind (smany_tells a) ?_
  cases manyB a with
  | false => exact ev_ite_neg (by simp) (by simpa using no)
  | true =>
    refine ev_ite_pos rfl ?_
    by_cases h8 : (ds.length : Int) ≤ 8
    · refine ev_ite_neg (by omega) ?_
      by_cases ha : (os.length : Int) = a
      · rw [decide_eq_true h8, decide_eq_true ha, Bool.true_and, Bool.true_and, Bool.true_and, show ((os.length : Int) != a) = false by simp [ha]]
        refine Ev.step (fun k => by rw [spec_GoodHeard.j0, if_neg (by simp)]) ?_
        have h0 := gh_l0 ds.length (by omega) a ds rfl os hos hr ds.length 0 (by omega)
        have e1 : (ds.all fun x => !badDeed x) = !(ds.any badDeed) := by rw [List.all_eq_not_any_not]; simp
        have e2 : os.all (fullB ds.length) = !(os.any (badOrd (ds.length : Int))) := by
          rw [List.all_eq_not_any_not]
          refine congrArg _ (congrArg (fun f => os.any f) (funext fun o => ?_))
          rw [ord_same ds.length (by omega) o]
        rw [List.drop_zero, e1, e2] at h0
        exact h0
      · rw [decide_eq_false ha, show ((os.length : Int) != a) = true by simp [ha]]
        simpa using no
    · refine ev_ite_pos (by omega) ?_
      rw [decide_eq_false h8]
      simpa using no

theorem drop_r (l : List (List Int)) (i : Nat) (h : i < l.length) : l.drop i = l.getD i [] :: l.drop (i + 1) := by
  rw [List.drop_eq_getElem_cons h]
  simp [List.getD, List.getElem?_eq_getElem h]
theorem rdR (l : List (List Int)) (i : Nat) : rd_L1 l (i : Int) = l.getD i [] := by simp [rd_L1]
/-- The weight of a row of rows: each row and each number counts one. -/
def weigh (l : List (List Int)) : Nat := l.length + (l.map List.length).sum
theorem row_le {l : List (List Int)} {x : List Int} (h : x ∈ l) : x.length ≤ (l.map List.length).sum := by
  induction l with
  | nil => simp at h
  | cons a l ih =>
    rw [List.map_cons, List.sum_cons]
    rcases List.mem_cons.1 h with e | e
    · subst e
      omega
    · have := ih e
      omega
theorem getR_mem (l : List (List Int)) (i : Nat) (h : i < l.length) : l.getD i [] ∈ l := by
  have := List.getElem_mem h
  simpa [List.getD, List.getElem?_eq_getElem h] using this

theorem szint (l : List Int) (a : Int) (h0 : 0 ≤ a) (h1 : a ≤ 1048576) (hl : l.length ≤ maxLen) : laws_szIntS.f l a = some (if a < (l.length : Int) then -1 else a - (l.length : Int)) := by
  have hm : maxLen ≤ 9223372036854775807 := by decide
  unfold laws_szIntS.f
  rw [w64 (by omega) (by omega)]
  split <;> split <;> first | rfl | omega

theorem szss_l (l : List (List Int)) (hl : l.length ≤ 1048576) (hr : ∀ x ∈ l, x.length ≤ maxLen) : ∀ (d i : Nat) (m : Int), i + d = l.length → 0 ≤ m → m ≤ 1048576 → ∃ t, Ev (fun k => laws_szIntSS.l0 k l m (i : Int)) t ∧ (0 ≤ t → ((l.drop i).map List.length).sum ≤ m)
  | 0, i, m, h, h0, _ => ⟨m, ev_stop fun k => by rw [laws_szIntSS.l0, if_neg (by omega)], fun _ => by
    rw [List.drop_of_length_le (by omega)]
    simpa using h0⟩
  | d + 1, i, m, h, h0, hm => by
    have hx : (l.getD i []).length ≤ maxLen := hr _ (by
      have := List.getElem_mem (show i < l.length by omega)
      simpa [List.getD, List.getElem?_eq_getElem (show i < l.length by omega)] using this)
    have e := szint (l.getD i []) m h0 hm hx
    rw [drop_r l i (by omega), List.map_cons, List.sum_cons]
    by_cases hc : m < ((l.getD i []).length : Int)
    · rw [if_pos hc] at e
      exact ⟨-1, ev_stop fun k => by
        rw [laws_szIntSS.l0, if_pos (by omega), if_pos (by omega), rdR, e, Option.bind_some, if_pos (by omega)], by omega⟩
    · rw [if_neg hc] at e
      obtain ⟨t, ht, hb⟩ := szss_l l hl hr d (i + 1) (m - (l.getD i []).length) (by omega) (by omega) (by omega)
      exact ⟨t, ev_step ht fun k => by
        rw [laws_szIntSS.l0, if_pos (by omega), if_pos (by omega), rdR, e, Option.bind_some, if_neg (by omega), next i (by omega)], fun h => by
        have := hb h
        omega⟩
theorem szss (l : List (List Int)) (hl : l.length ≤ maxLen) (hr : ∀ x ∈ l, x.length ≤ maxLen) : ∃ t, Ev (fun k => laws_szIntSS.f k l 1048576) t ∧ (0 ≤ t → weigh l ≤ 1048576) := by
  have hm : maxLen ≤ 9223372036854775807 := by decide
  unfold laws_szIntSS.f
  rw [w64 (by omega) (by omega)]
  by_cases hc : 1048576 - (l.length : Int) < 0
  · exact ⟨-1, ev_ite_pos hc (ev_some fun _ => rfl), by omega⟩
  · obtain ⟨t, ht, hb⟩ := szss_l l (by omega) hr l.length 0 (1048576 - l.length) (by omega) (by omega) (by omega)
    refine ⟨t, ev_ite_neg hc ht, fun h => ?_⟩
    have := hb h
    rw [List.drop_zero] at this
    unfold weigh
    omega

theorem szdeed (l : List S122) (hl : l.length ≤ maxLen) : laws_szDeedS.f l 1048576 = some (if 1048576 < (l.length : Int) then -1 else 1048576 - (l.length : Int)) := by
  have hm : maxLen ≤ 9223372036854775807 := by decide
  unfold laws_szDeedS.f
  rw [w64 (by omega) (by omega)]
  split <;> split <;> first | rfl | omega

theorem szssT_l (l : List (List Int)) (hl : l.length ≤ 1048576) (hr : ∀ x ∈ l, x.length ≤ maxLen) : ∀ (d i : Nat) (m : Int), i + d = l.length → 0 ≤ m → m ≤ 1048576 → ∃ t, Ev (fun k => laws_szIntSS.l0 k l m (i : Int)) t ∧ (0 ≤ t → ((l.drop i).map List.length).sum ≤ m) ∧ t ≤ m
  | 0, i, m, h, h0, _ => ⟨m, ev_stop fun k => by rw [laws_szIntSS.l0, if_neg (by omega)], fun _ => by
    rw [List.drop_of_length_le (by omega)]
    simpa using h0, Int.le_refl _⟩
  | d + 1, i, m, h, h0, hm => by
    have hx : (l.getD i []).length ≤ maxLen := hr _ (by
      have := List.getElem_mem (show i < l.length by omega)
      simpa [List.getD, List.getElem?_eq_getElem (show i < l.length by omega)] using this)
    have e := szint (l.getD i []) m h0 hm hx
    rw [drop_r l i (by omega), List.map_cons, List.sum_cons]
    by_cases hc : m < ((l.getD i []).length : Int)
    · rw [if_pos hc] at e
      exact ⟨-1, ev_stop fun k => by
        rw [laws_szIntSS.l0, if_pos (by omega), if_pos (by omega), rdR, e, Option.bind_some, if_pos (by omega)], by omega, by omega⟩
    · rw [if_neg hc] at e
      obtain ⟨t, ht, hb, hle⟩ := szssT_l l hl hr d (i + 1) (m - (l.getD i []).length) (by omega) (by omega) (by omega)
      exact ⟨t, ev_step ht fun k => by
        rw [laws_szIntSS.l0, if_pos (by omega), if_pos (by omega), rdR, e, Option.bind_some, if_neg (by omega), next i (by omega)], fun h => by
        have := hb h
        omega, by omega⟩
theorem szssT (l : List (List Int)) (hl : l.length ≤ maxLen) (hr : ∀ x ∈ l, x.length ≤ maxLen) (m : Int) (h0 : 0 ≤ m) (h1 : m ≤ 1048576) : ∃ t, Ev (fun k => laws_szIntSS.f k l m) t ∧ (0 ≤ t → weigh l ≤ m) ∧ t ≤ m := by
  have hm : maxLen ≤ 9223372036854775807 := by decide
  unfold laws_szIntSS.f
  rw [w64 (by omega) (by omega)]
  by_cases hc : m - (l.length : Int) < 0
  · exact ⟨-1, ev_ite_pos hc (ev_some fun _ => rfl), by omega, by omega⟩
  · obtain ⟨t, ht, hb, hle⟩ := szssT_l l (by omega) hr l.length 0 (m - l.length) (by omega) (by omega) (by omega)
    refine ⟨t, ev_ite_neg hc ht, fun h => ?_, by omega⟩
    have := hb h
    rw [List.drop_zero] at this
    unfold weigh
    omega
theorem szheard (a : Int) (ds : List S122) (os : List (List Int)) (hd : ds.length ≤ maxLen) (ho : os.length ≤ maxLen) (ho2 : ∀ x ∈ os, x.length ≤ maxLen) : ∃ t, Ev (fun k => laws_szHeard.f k a ds os 1048576) t ∧ (0 ≤ t → ds.length ≤ 1048576 ∧ weigh os ≤ 1048576) ∧ t ≤ 1048576 := by
  have hsd := szdeed ds hd
  unfold laws_szHeard.f
  by_cases hg : 1048576 < (ds.length : Int)
  · rw [if_pos hg] at hsd
    exact ⟨-1, ev_some_bind hsd (ev_ite_pos (by decide) (ev_some fun _ => rfl)), by omega, by omega⟩
  rw [if_neg hg] at hsd
  obtain ⟨t, ht, hw, hle⟩ := szssT os ho ho2 (1048576 - (ds.length : Int)) (by omega) (by omega)
  by_cases h0 : t < 0
  · exact ⟨-1, ev_some_bind hsd (ev_ite_neg (by omega) (ev_bind ht (ev_ite_pos h0 (ev_some fun _ => rfl)))), by omega, by omega⟩
  · exact ⟨t, ev_some_bind hsd (ev_ite_neg (by omega) (ev_bind ht (ev_ite_neg h0 (ev_some fun _ => rfl)))), fun h => by have := hw h; omega, by omega⟩

def convDeed (x : S122) : S88 := ⟨x.f0, x.f1⟩
theorem toDeed_l (l : List S122) (hl : l.length ≤ 4611686018427387903) : ∀ (d i : Nat) (m : List S88), m.length = l.length → i + d = l.length → m.take i = (l.map convDeed).take i → Ev (fun k => laws_toDeedS.l0 k l m (i : Int)) (l.map convDeed)
  | 0, i, m, hm, h, ht => ev_stop fun k => by
    rw [laws_toDeedS.l0, if_neg (by omega)]
    rw [List.take_of_length_le (by omega), List.take_of_length_le (by simp; omega)] at ht
    rw [ht]
  | d + 1, i, m, hm, h, ht => by
    refine ev_step (toDeed_l l hl d (i + 1) (m.set i (convDeed (l.getD i z122))) (by simpa using hm) (by omega) ?_) fun k => by
      rw [laws_toDeedS.l0, if_pos (by omega), if_pos (by omega)]
      unfold laws_toDeed.f
      rw [Option.bind_some, if_pos (by omega), next i (by omega)]
      rfl
    rw [List.take_succ_eq_append_getElem (by simp; omega), List.take_succ_eq_append_getElem (by simp; omega), List.take_set_of_le (Nat.le_refl i), ht]
    simp [List.getD, List.getElem?_eq_getElem (show i < l.length by omega)]
theorem toDeed_tells (l : List S122) (hl : l.length ≤ 1048576) : Ev (fun k => laws_toDeedS.f k l) (l.map convDeed) := by
  refine Ev.congr (g := fun k => laws_toDeedS.f k l) (fun k => ?_) (toDeed_l l (by omega) l.length 0 (List.replicate l.length z88) (by simp) (by omega) (by simp))
  unfold laws_toDeedS.f
  rw [if_pos (by omega), if_pos (by omega), Int.toNat_natCast]
  rfl
theorem eqDeed_l (l : List S88) (hl : l.length ≤ 4611686018427387903) : ∀ (d i : Nat), i + d = l.length → Ev (fun k => laws_eqDeedS.l0 k l l (i : Int)) true
  | 0, i, h => ev_stop fun k => by
    rw [laws_eqDeedS.l0, if_neg (by omega)]
  | d + 1, i, h => by
    refine ev_step (eqDeed_l l hl d (i + 1) (by omega)) fun k => by
      rw [laws_eqDeedS.l0, if_pos (by omega), if_pos (by omega), if_pos (by omega)]
      unfold laws_eqDeed.f
      simp [next i (by omega)]
theorem eqDeed_tells (l : List S88) (hl : l.length ≤ 4611686018427387903) : Ev (fun k => laws_eqDeedS.f k l l) true := by
  refine Ev.congr (g := fun k => laws_eqDeedS.f k l l) (fun k => ?_) (eqDeed_l l hl l.length 0 (by omega))
  unfold laws_eqDeedS.f
  rw [if_pos rfl]
  rfl

theorem toints_l (l : List Int) (hl : l.length ≤ 4611686018427387904) : ∀ (d i : Nat) (m : List Int), m.length = l.length → i + d = l.length → m.take i = l.take i → Ev (fun k => laws_toIntS.l0 k l m (i : Int)) l
  | 0, i, m, hm, h, ht => ev_stop fun k => by
    rw [laws_toIntS.l0, if_neg (by omega)]
    rw [List.take_of_length_le (by omega), List.take_of_length_le (by omega)] at ht
    rw [ht]
  | d + 1, i, m, hm, h, ht => by
    have h1 : wrap64 ((i : Int) + 1) = ((i + 1 : Nat) : Int) := by rw [w64 (by omega) (by omega)]; omega
    refine ev_step (toints_l l hl d (i + 1) (m.set i (l.getD i 0)) (by simpa using hm) (by omega) ?_) fun k => by
      rw [laws_toIntS.l0, if_pos (by omega), if_pos (by omega), if_pos (by omega), h1, rdn, Int.toNat_natCast]
    rw [List.take_succ_eq_append_getElem (by simp; omega), List.take_succ_eq_append_getElem (by omega), List.take_set_of_le (Nat.le_refl i), ht]
    simp [List.getD, List.getElem?_eq_getElem (show i < l.length by omega)]
theorem toints_tells (l : List Int) (hl : l.length ≤ 35184372088832) : Ev (fun k => laws_toIntS.f k l) l := by
  refine Ev.congr (g := fun k => laws_toIntS.f k l) (fun k => ?_) (toints_l l (by omega) l.length 0 (List.replicate l.length 0) (by simp) (by omega) (by simp))
  unfold laws_toIntS.f
  rw [if_pos (by omega), if_pos (by omega), Int.toNat_natCast]
  rfl

theorem toss_l (l : List (List Int)) (hl : weigh l ≤ 1048576) : ∀ (d i : Nat) (m : List (List Int)), m.length = l.length → i + d = l.length → m.take i = l.take i → Ev (fun k => laws_toIntSS.l0 k l m (i : Int)) l
  | 0, i, m, hm, h, ht => ev_stop fun k => by
    rw [laws_toIntSS.l0, if_neg (by omega)]
    rw [List.take_of_length_le (by omega), List.take_of_length_le (by omega)] at ht
    rw [ht]
  | d + 1, i, m, hm, h, ht => by
    have hw := row_le (getR_mem l i (by omega))
    unfold weigh at hl
    refine Ev.step (f := fun k => (laws_toIntS.f k (l.getD i [])).bind fun t => laws_toIntSS.l0 k l (m.set i t) ((i + 1 : Nat) : Int)) (fun k => ?_) (ev_bind (toints_tells (l.getD i []) (by omega)) (toss_l l hl d (i + 1) (m.set i (l.getD i [])) (by simpa using hm) (by omega) ?_))
    · rw [laws_toIntSS.l0, if_pos (by omega), if_pos (by omega), rdR]
      refine congrArg (Option.bind _) (funext fun t => ?_)
      rw [if_pos (by omega), next i (by omega), Int.toNat_natCast]
    · rw [List.take_succ_eq_append_getElem (by simp; omega), List.take_succ_eq_append_getElem (by omega), List.take_set_of_le (Nat.le_refl i), ht]
      simp [List.getD, List.getElem?_eq_getElem (show i < l.length by omega)]
theorem toss_tells (l : List (List Int)) (hl : weigh l ≤ 1048576) : Ev (fun k => laws_toIntSS.f k l) l := by
  have hl' : l.length ≤ 1048576 := by unfold weigh at hl; omega
  refine Ev.congr (g := fun k => laws_toIntSS.f k l) (fun k => ?_) (toss_l l hl l.length 0 (List.replicate l.length []) (by simp) (by omega) (by simp))
  unfold laws_toIntSS.f
  rw [if_pos (by omega), if_pos (by omega), Int.toNat_natCast]
  rfl

theorem eqints_l (l : List Int) (hl : l.length ≤ 4611686018427387904) : ∀ (d i : Nat), i + d = l.length → Ev (fun k => laws_eqIntS.l0 k l l (i : Int)) true
  | 0, i, h => ev_stop fun k => by
    rw [laws_eqIntS.l0, if_neg (by omega)]
  | d + 1, i, h => by
    have h1 : wrap64 ((i : Int) + 1) = ((i + 1 : Nat) : Int) := by rw [w64 (by omega) (by omega)]; omega
    refine ev_step (eqints_l l hl d (i + 1) (by omega)) fun k => by
      rw [laws_eqIntS.l0, if_pos (by omega), if_pos (by omega), if_pos (by omega), if_pos rfl, h1]
theorem eqints_tells (l : List Int) (hl : l.length ≤ 4611686018427387904) : Ev (fun k => laws_eqIntS.f k l l) true := by
  refine Ev.congr (g := fun k => laws_eqIntS.f k l l) (fun k => ?_) (eqints_l l hl l.length 0 (by omega))
  unfold laws_eqIntS.f
  rw [if_pos rfl]
  rfl

theorem eqss_l (l : List (List Int)) (hl : l.length ≤ 4611686018427387903) (hr : ∀ x ∈ l, x.length ≤ 4611686018427387903) : ∀ (d i : Nat), i + d = l.length → Ev (fun k => laws_eqIntSS.l0 k l l (i : Int)) true
  | 0, i, h => ev_stop fun k => by
    rw [laws_eqIntSS.l0, if_neg (by omega)]
  | d + 1, i, h => by
    have hw := hr _ (getR_mem l i (by omega))
    refine Ev.step (f := fun k => (laws_eqIntS.f k (l.getD i []) (l.getD i [])).bind fun t => if t = true then laws_eqIntSS.l0 k l l ((i + 1 : Nat) : Int) else some false) (fun k => ?_) (ev_bind (eqints_tells _ (by omega)) (ev_ite_pos rfl (eqss_l l hl hr d (i + 1) (by omega))))
    rw [laws_eqIntSS.l0, if_pos (by omega), if_pos (by omega), if_pos (by omega), rdR, next i (by omega)]
theorem eqss_tells (l : List (List Int)) (hl : l.length ≤ 4611686018427387903) (hr : ∀ x ∈ l, x.length ≤ 4611686018427387903) : Ev (fun k => laws_eqIntSS.f k l l) true := by
  refine Ev.congr (g := fun k => laws_eqIntSS.f k l l) (fun k => ?_) (eqss_l l hl hr l.length 0 (by omega))
  unfold laws_eqIntSS.f
  rw [if_pos rfl]
  rfl
theorem eqss_weigh (l : List (List Int)) (hl : weigh l ≤ 1048576) : Ev (fun k => laws_eqIntSS.f k l l) true := by
  unfold weigh at hl
  exact eqss_tells l (by omega) fun x hx => by have := row_le hx; omega

/-- The rising numbers from m on. -/
def upFrom (m : Int) : Nat → List Int
  | 0 => []
  | n + 1 => m :: upFrom (m + 1) n
theorem upFrom_len (m : Int) : ∀ n, (upFrom m n).length = n
  | 0 => rfl
  | n + 1 => by rw [upFrom, List.length_cons, upFrom_len (m + 1) n]
theorem take_set_succ (l : List Int) (i : Nat) (m : Int) (h : i < l.length) : (l.set i m).take (i + 1) = l.take i ++ [m] := by
  rw [List.take_succ_eq_append_getElem (by simpa using h), List.take_set_of_le (Nat.le_refl i)]
  simp
theorem markInt_l : ∀ (d i : Nat) (l : List Int) (m : Int), i + d = l.length → 0 ≤ m → m + d ≤ 4611686018427387903 → l.length ≤ 4611686018427387903 → Ev (fun k => laws_markIntS.l0 k l m (i : Int)) (m + d, l.take i ++ upFrom m d)
  | 0, i, l, m, h, _, _, _ => ev_stop fun k => by
    rw [laws_markIntS.l0, if_neg (by omega), List.take_of_length_le (by omega)]
    simp [upFrom]
  | d + 1, i, l, m, h, hm, hb, hl => by
    have ih := markInt_l d (i + 1) (l.set i m) (m + 1) (by simpa using by omega) (by omega) (by omega) (by simpa using hl)
    rw [take_set_succ l i m (by omega), List.append_assoc] at ih
    have e : m + 1 + (d : Int) = m + ((d + 1 : Nat) : Int) := by omega
    rw [e] at ih
    exact ev_step ih fun k => by rw [laws_markIntS.l0, if_pos (by omega), if_pos (by omega), w64 (by omega) (by omega), next i (by omega), Int.toNat_natCast]
theorem markInt_tells (l : List Int) (m : Int) (hm : 0 ≤ m) (hb : m + l.length ≤ 4611686018427387903) : Ev (fun k => laws_markIntS.f k l m) (m + l.length, upFrom m l.length) := by
  have h := markInt_l l.length 0 l m (by omega) hm hb (by omega)
  rw [List.take_zero, List.nil_append] at h
  exact h

theorem heldInt_l (l : List Int) (hl : l.length ≤ 4611686018427387903) : ∀ (d i : Nat) (m : Int), i + d = l.length → l.drop i = upFrom m d → 0 ≤ m → m + d ≤ 4611686018427387903 → Ev (fun k => laws_heldIntS.l0 k l m (i : Int)) (m + d)
  | 0, i, m, h, _, _, _ => ev_stop fun k => by
    rw [laws_heldIntS.l0, if_neg (by omega)]
    simp
  | d + 1, i, m, h, he, hm, hb => by
    rw [drop_at l i (by omega), upFrom] at he
    injection he with e1 e2
    have ih := heldInt_l l hl d (i + 1) (m + 1) (by omega) e2 (by omega) (by omega)
    have e : m + 1 + (d : Int) = m + ((d + 1 : Nat) : Int) := by omega
    rw [e] at ih
    exact ev_step ih fun k => by rw [laws_heldIntS.l0, if_pos (by omega), if_pos (by omega), rdn, if_pos e1, w64 (by omega) (by omega), next i (by omega)]
theorem heldInt_tells (m : Int) (n : Nat) (hm : 0 ≤ m) (hb : m + n ≤ 4611686018427387903) : Ev (fun k => laws_heldIntS.f k (upFrom m n) m) (m + n) := by
  have h := heldInt_l (upFrom m n) (by rw [upFrom_len]; omega) n 0 m (by rw [upFrom_len]; omega) (by simp) hm hb
  exact h

/-- A row of rows of the rising numbers from m on, of the same lengths. -/
def upRows (m : Int) : List (List Int) → List (List Int)
  | [] => []
  | r :: l => upFrom m r.length :: upRows (m + r.length) l
theorem upRows_len (m : Int) : ∀ l, (upRows m l).length = l.length
  | [] => rfl
  | r :: l => by rw [upRows, List.length_cons, upRows_len (m + r.length) l, List.length_cons]
theorem take_set_row (l : List (List Int)) (i : Nat) (m : List Int) (h : i < l.length) : (l.set i m).take (i + 1) = l.take i ++ [m] := by
  rw [List.take_succ_eq_append_getElem (by simpa using h), List.take_set_of_le (Nat.le_refl i)]
  simp
theorem markss_l : ∀ (d i : Nat) (l : List (List Int)) (m : Int), i + d = l.length → l.length ≤ 4611686018427387903 → 0 ≤ m → m + ((l.drop i).map List.length).sum ≤ 1000000000 → Ev (fun k => laws_markIntSS.l0 k l m (i : Int)) (m + ((l.drop i).map List.length).sum, l.take i ++ upRows m (l.drop i))
  | 0, i, l, m, h, _, _, _ => ev_stop fun k => by
    rw [laws_markIntSS.l0, if_neg (by omega), List.drop_of_length_le (by omega), List.take_of_length_le (by omega)]
    simp [upRows]
  | d + 1, i, l, m, h, hl, hm, hb => by
    rw [drop_r l i (by omega), List.map_cons, List.sum_cons] at hb
    rw [drop_r l i (by omega), List.map_cons, List.sum_cons, upRows]
    have hset : (l.set i (upFrom m (l.getD i []).length)).drop (i + 1) = l.drop (i + 1) := List.drop_set_of_lt (by omega)
    have ih := markss_l d (i + 1) (l.set i (upFrom m (l.getD i []).length)) (m + (l.getD i []).length) (by rw [List.length_set]; omega) (by rw [List.length_set]; omega) (by omega) (by rw [hset]; omega)
    rw [hset, take_set_row l i _ (by omega), List.append_assoc] at ih
    refine Ev.step (f := fun k => (laws_markIntS.f k (l.getD i []) m).bind fun bt => laws_markIntSS.l0 k (l.set i bt.2) bt.1 ((i + 1 : Nat) : Int)) (fun k => ?_) (ev_bind (markInt_tells (l.getD i []) m hm (by omega)) ?_)
    · rw [laws_markIntSS.l0, if_pos (by omega), if_pos (by omega), Int.toNat_natCast, next i (by omega)]
    · have e : m + ((l.getD i []).length : Int) + (((l.drop (i + 1)).map List.length).sum : Int) = m + (((l.getD i []).length + ((l.drop (i + 1)).map List.length).sum : Nat) : Int) := by omega
      rw [e] at ih
      exact ih
theorem markss_tells (l : List (List Int)) (m : Int) (hl : weigh l ≤ 1048576) (hm : 0 ≤ m) (hb : m ≤ 900000000) : Ev (fun k => laws_markIntSS.f k l m) (m + ((l.map List.length).sum : Nat), upRows m l) := by
  unfold weigh at hl
  have h := markss_l l.length 0 l m (by omega) (by omega) hm (by rw [List.drop_zero]; omega)
  rw [List.drop_zero, List.take_zero, List.nil_append] at h
  exact h

/-- What holds from some number of rounds on. -/
def Evs (P : Nat → Prop) : Prop := ∃ K, ∀ k, K ≤ k → P k
theorem Evs.and {P Q : Nat → Prop} (h : Evs P) (h2 : Evs Q) : Evs (fun k => P k ∧ Q k) := by
  obtain ⟨K, hK⟩ := h
  obtain ⟨L, hL⟩ := h2
  exact ⟨max K L, fun k hk => ⟨hK k (by omega), hL k (by omega)⟩⟩
theorem Evs.of {P : Prop} (h : P) : Evs (fun _ => P) := ⟨0, fun _ _ => h⟩
theorem Evs.ev {α : Type} {g : Nat → Option α} {r : α} (h : Ev g r) : Evs (fun k => g k = some r) := h
theorem Evs.now {P : Nat → Prop} (h : Evs P) : ∃ k, P k := by
  obtain ⟨K, hK⟩ := h
  exact ⟨K, hK K (Nat.le_refl _)⟩
theorem Evs.mono {P Q : Nat → Prop} (h : Evs P) (hq : ∀ k, P k → Q k) : Evs Q := by
  obtain ⟨K, hK⟩ := h
  exact ⟨K, fun k hk => hq k (hK k hk)⟩

theorem weigh_len {os : List (List Int)} {n : Nat} (h : weigh os ≤ n) : os.length ≤ n := by unfold weigh at h; omega
theorem weigh_rows {os : List (List Int)} {n : Nat} (h : weigh os ≤ n) : ∀ x ∈ os, x.length ≤ n := fun x hx => by
  have := row_le hx
  unfold weigh at h
  omega
theorem toHeard_tells (a : Int) (ds : List S122) (os : List (List Int)) (hd : ds.length ≤ 1048576) (ho : weigh os ≤ 1048576) : Ev (fun k => laws_toHeard.f k a ds os) (a, ds.map convDeed, os) := by
  unfold laws_toHeard.f
  exact ev_bind (toDeed_tells ds hd) (ev_bind (toss_tells os ho) (ev_some fun _ => rfl))
theorem eqHeard_tells (a : Int) (e : List S88) (os : List (List Int)) (hd : e.length ≤ 1048576) (ho : weigh os ≤ 1048576) : Ev (fun k => laws_eqHeard.f k a e os a e os) true := by
  unfold laws_eqHeard.f
  exact ev_ite_pos rfl (ev_bind (eqDeed_tells e (by omega)) (ev_ite_pos rfl (ev_bind (eqss_weigh os ho) (ev_ite_pos rfl (ev_some fun _ => rfl)))))
theorem markDeed_l : ∀ (d i : Nat) (l : List S88) (m : Int), i + d = l.length → l.length ≤ 4611686018427387903 → 0 ≤ m → m + 2 * d ≤ 4611686018427387903 → ∃ r, Ev (fun k => laws_markDeedS.l0 k l m (i : Int)) (m + 2 * d, r)
  | 0, i, l, m, h, _, _, _ => ⟨l, ev_stop fun k => by
    rw [laws_markDeedS.l0, if_neg (by omega)]
    simp⟩
  | d + 1, i, l, m, h, hl, hm, hb => by
    have hs : ∃ l' : List S88, l'.length = l.length ∧ ∀ k, laws_markDeedS.l0 (k + 1) l m (i : Int) = laws_markDeedS.l0 k l' (m + 2) ((i + 1 : Nat) : Int) := by
      apply Exists.intro
      apply And.intro
      rotate_left
      · intro k
        rw [laws_markDeedS.l0, if_pos (by omega), if_pos (by omega)]
        simp only [Option.bind_some]
        rw [w64 (i := m + 1) (by omega) (by omega), w64 (i := m + 1 + 1) (by omega) (by omega), next i (by omega), show m + 1 + 1 = m + 2 by omega]
      · simp
    obtain ⟨l', hl', hk⟩ := hs
    obtain ⟨r, hr⟩ := markDeed_l d (i + 1) l' (m + 2) (by omega) (by omega) (by omega) (by omega)
    have e : m + 2 + 2 * (d : Int) = m + 2 * ((d + 1 : Nat) : Int) := by omega
    rw [e] at hr
    exact ⟨r, ev_step hr hk⟩
theorem markHeard_tells (a : Int) (e : List S88) (os : List (List Int)) (hd : e.length ≤ 1048576) (ho : weigh os ≤ 1048576) : ∃ n z y, Ev (fun k => laws_markHeard.f k a e os 1) (n, z, y) ∧ 0 ≤ n ∧ n ≤ 10000000 := by
  obtain ⟨r, hr⟩ := markDeed_l e.length 0 e 1 (by omega) (by omega) (by omega) (by omega)
  have m2 := markss_tells os (1 + 2 * (e.length : Int)) ho (by omega) (by omega)
  have hs : (os.map List.length).sum ≤ 1048576 := by unfold weigh at ho; omega
  refine ⟨1 + 2 * (e.length : Int) + ((os.map List.length).sum : Nat), r, upRows (1 + 2 * (e.length : Int)) os, ?_, by omega, by omega⟩
  unfold laws_markHeard.f
  exact ev_bind hr (ev_bind m2 (ev_some fun _ => rfl))

theorem rise_same : ∀ (k : Nat) (x0 : List Int) (x1 x2 : Int) (x9 : List Int) (x10 x11 : Int), spec_l1Rising.l0 k x0 x1 x2 x9 x10 x11 = impl_isRising.l0 k x0 x1 x2 x9 x10 x11
  | 0, _, _, _, _, _, _ => rfl
  | k + 1, x0, x1, x2, x9, x10, x11 => by
    rw [spec_l1Rising.l0, impl_isRising.l0]
    simp only [rise_same k]
    rfl
theorem srise_tells (l : List Int) (a b : Int) (hl : l.length ≤ 4611686018427387904) : Ev (fun k => spec_l1Rising.f k l a b) (riseB l a b) :=
  Ev.congr (fun k => rise_same k _ _ _ _ _ _) (rise_tells l a b hl)

theorem mclash_s (x y : S88) : spec_l13Clash.f x.f0 x.f1 y.f0 y.f1 = some (deedClash x y) := by
  unfold spec_l13Clash.f deedClash
  by_cases h : x.f0 = y.f0
  · rw [if_pos h, decide_eq_true h]
    cases x.f1 <;> simp
  · rw [if_neg h, decide_eq_false h]
    rfl
theorem mrows_l (a : Int) (ds : List S88) (os gs : List (List Int)) (hl : gs.length ≤ 1048576) (hr : ∀ x ∈ gs, x.length ≤ 1048576) : ∀ (d i : Nat), i + d = gs.length → Ev (fun k => spec_l13Rows.l0 k gs gs (gs.length : Int) (i : Int) a ds os) ((gs.drop i).all (fun r => !badRow (ds.length : Int) r) && decide ((gs.length : Int) = (ds.length : Int)))
  | 0, i, h => ev_stop fun k => by
    rw [spec_l13Rows.l0, if_neg (by omega), List.drop_of_length_le (by omega), List.all_nil, Bool.true_and]
    rfl
  | d + 1, i, h => by
    have ih := mrows_l a ds os gs hl hr d (i + 1) (by omega)
    have hm := hr _ (getR_mem gs i (by omega))
    rw [drop_r gs i (by omega), List.all_cons]
    generalize hg : gs.getD i [] = g at hm ⊢
    refine Ev.step (f := fun k => (spec_l1Rising.f k g 0 (wrap64 ((ds.length : Int) - 1))).bind fun t => if t = true then spec_l13Rows.l0 k gs gs (gs.length : Int) ((i + 1 : Nat) : Int) a ds os else some false) (fun k => ?_) (ev_bind (srise_tells g 0 (wrap64 ((ds.length : Int) - 1)) (by omega)) ?_)
    · rw [spec_l13Rows.l0, if_pos (by omega), if_pos (by omega), if_pos (by omega), rdL1h, hg, next i (by omega)]
    · unfold badRow at ih ⊢
      cases hq : riseB g 0 (wrap64 ((ds.length : Int) - 1)) with
      | false => exact ev_ite_neg (by simp) (ev_some fun _ => by simp)
      | true =>
        refine ev_ite_pos rfl ?_
        rw [Bool.not_not, Bool.true_and]
        exact ih
theorem missRow_len (ds : List S88) (ls : List (List Int)) (a : Nat) : ∀ (d b : Nat) (acc : List Int), (missRow ds ls a d b acc).length ≤ acc.length + d
  | 0, _, acc => by simp [missRow]
  | d + 1, b, acc => by
    rw [missRow]
    refine Nat.le_trans (missRow_len ds ls a d (b + 1) _) ?_
    split
    · rw [List.length_append, List.length_singleton]; omega
    · omega
theorem miss_l1 (a0 : Int) (ds : List S88) (os gs : List (List Int)) (hn : ds.length ≤ 8) (hl : gs.length = ds.length) (hr : ∀ x ∈ gs, x.length ≤ 1048576) (a : Nat) (ha : a < gs.length) (q : List Int × Bool) : ∀ (d b : Nat) (acc : List Int), b + d = gs.length → acc.length + d ≤ 100 → Ev (fun k => spec_MissedBy.l0 k gs (missRow ds gs a d b acc) (gs.length : Int) (wrap64 ((a : Int) + 1)) a0 ds os) q → Ev (fun k => spec_MissedBy.l1 k gs acc (a : Int) (b : Int) (gs.length : Int) (a : Int) a0 ds os) q
  | 0, b, acc, h, _, hq => Ev.step (f := fun k => spec_MissedBy.l0 k gs acc (gs.length : Int) (wrap64 ((a : Int) + 1)) a0 ds os) (fun k => by rw [spec_MissedBy.l1, if_neg (by omega)]) hq
  | d + 1, b, acc, h, hb, hq => by
    rw [missRow] at hq
    have ih := fun acc' h' hq' => miss_l1 a0 ds os gs hn hl hr a ha q d (b + 1) acc' (by omega) h' hq'
    have ra := hr _ (getR_mem gs a (by omega))
    have rb := hr _ (getR_mem gs b (by omega))
    have hlt : acc.length < 17592186044416 := by omega
    have hw : wrap64 (wrap64 (8 * (a : Int)) + (b : Int)) = 8 * (a : Int) + (b : Int) := by rw [w64 (i := 8 * (a : Int)) (by omega) (by omega), w64 (by omega) (by omega)]
    have hx : rd_T88 ds (a : Int) = ds.getD a z88 := rfl
    have hy : rd_T88 ds (b : Int) = ds.getD b z88 := rfl
    unfold missed at hq
    generalize hA : gs.getD a [] = rowA at hq ra
    generalize hB : gs.getD b [] = rowB at hq rb
    have ca : rowA.contains (b : Int) = decide ((b : Int) ∈ rowA) := by simp
    have cb : rowB.contains (a : Int) = decide ((a : Int) ∈ rowB) := by simp
    rw [ca, cb] at hq
    refine Ev.step (f := fun k => if deedClash (ds.getD a z88) (ds.getD b z88) = true then (spec_l1Has.f k rowA (b : Int)).bind fun t => if t = true then spec_MissedBy.l1 k gs acc (a : Int) ((b + 1 : Nat) : Int) (gs.length : Int) (a : Int) a0 ds os else (spec_l1Has.f k rowB (a : Int)).bind fun u => if u = true then spec_MissedBy.l1 k gs acc (a : Int) ((b + 1 : Nat) : Int) (gs.length : Int) (a : Int) a0 ds os else spec_MissedBy.l1 k gs (acc ++ [8 * (a : Int) + (b : Int)]) (a : Int) ((b + 1 : Nat) : Int) (gs.length : Int) (a : Int) a0 ds os else spec_MissedBy.l1 k gs acc (a : Int) ((b + 1 : Nat) : Int) (gs.length : Int) (a : Int) a0 ds os) (fun k => ?_) ?_
    · rw [spec_MissedBy.l1, if_pos (by omega), if_pos (by omega), if_pos (by omega), if_pos (by omega), if_pos (by omega), hx, hy, mclash_s, Option.bind_some, if_pos (show (a : Int) < (gs.length : Int) by omega), rdL1h, rdL1h, hA, hB, next b (by omega)]
      simp only [hlt, if_true, hw]
    · cases hc : deedClash (ds.getD a z88) (ds.getD b z88) with
      | false =>
        rw [hc, if_neg (by simp)] at hq
        exact ev_ite_neg (by simp) (ih _ (by omega) hq)
      | true =>
        rw [hc] at hq
        refine ev_ite_pos rfl (ev_bind (has_tells rowA (b : Int) (by omega)) ?_)
        by_cases hp : (b : Int) ∈ rowA
        · rw [decide_eq_true hp] at hq ⊢
          rw [if_neg (by simp)] at hq
          exact ev_ite_pos rfl (ih _ (by omega) hq)
        · rw [decide_eq_false hp] at hq ⊢
          refine ev_ite_neg (by simp) (ev_bind (has_tells rowB (a : Int) (by omega)) ?_)
          by_cases hu : (a : Int) ∈ rowB
          · rw [decide_eq_true hu] at hq ⊢
            rw [if_neg (by simp)] at hq
            exact ev_ite_pos rfl (ih _ (by omega) hq)
          · rw [decide_eq_false hu] at hq ⊢
            rw [if_pos (by simp)] at hq
            exact ev_ite_neg (by simp) (ih _ (by rw [List.length_append, List.length_singleton]; omega) hq)
theorem miss_l0 (a0 : Int) (ds : List S88) (os gs : List (List Int)) (hn : ds.length ≤ 8) (hl : gs.length = ds.length) (hr : ∀ x ∈ gs, x.length ≤ 1048576) : ∀ (d a : Nat) (acc : List Int), a + d = gs.length → acc.length ≤ 8 * a → Ev (fun k => spec_MissedBy.l0 k gs acc (gs.length : Int) (a : Int) a0 ds os) (missOut ds gs ds.length d a acc, true) ∧ (missOut ds gs ds.length d a acc).length ≤ 64
  | 0, a, acc, h, hb => ⟨ev_stop fun k => by rw [spec_MissedBy.l0, if_neg (by omega), missOut], by rw [missOut]; omega⟩
  | d + 1, a, acc, h, hb => by
    have hm := missRow_len ds gs a (ds.length - (a + 1)) (a + 1) acc
    obtain ⟨ih, ib⟩ := miss_l0 a0 ds os gs hn hl hr d (a + 1) (missRow ds gs a (ds.length - (a + 1)) (a + 1) acc) (by omega) (by omega)
    rw [missOut]
    refine ⟨Ev.step (f := fun k => spec_MissedBy.l1 k gs acc (a : Int) ((a + 1 : Nat) : Int) (gs.length : Int) (a : Int) a0 ds os) (fun k => by rw [spec_MissedBy.l0, if_pos (by omega), next a (by omega)]) (miss_l1 a0 ds os gs hn hl hr a (by omega) _ (ds.length - (a + 1)) (a + 1) acc (by omega) (by omega) ?_), ib⟩
    rw [next a (by omega)]
    exact ih
theorem missed_same (a : Int) (ds : List S88) (os gs : List (List Int)) (hos : os.length ≤ 1048576) (hr : ∀ x ∈ os, x.length ≤ 1048576) (hl : gs.length ≤ 1048576) (hg : ∀ x ∈ gs, x.length ≤ 1048576) : ∃ x : List Int × Bool, Ev (fun k => spec_MissedBy.f k a ds os gs) x ∧ impl_MissedBy.f a ds os gs = some x ∧ x.1.length ≤ 64 := by
  have noS : Ev (fun k => spec_MissedBy.j0 k gs true a ds os) ([], false) := ev_stop fun k => by rw [spec_MissedBy.j0, if_pos rfl]
  have hs := heard_s a ds os hos hr
  have hi := heard_i a ds os hr
  unfold spec_MissedBy.f impl_MissedBy.f
  rw [hi, Option.bind_some]
  cases hH : goodH a ds os with
  | false =>
    rw [hH] at hs
    exact ⟨([], false), ev_bind hs (ev_ite_neg (by simp) noS), by rw [if_neg (by simp)], by simp⟩
  | true =>
    rw [hH] at hs
    have hn : ds.length ≤ 8 := by
      unfold goodH at hH
      simp only [Bool.and_eq_true, decide_eq_true_eq] at hH
      omega
    have hR := mrows_l a ds os gs hl hg gs.length 0 (by omega)
    rw [List.drop_zero] at hR
    rw [if_pos rfl, if_pos ⟨List.all_eq_true.2 fun x hx => decide_eq_true (hg x hx), hn⟩]
    by_cases hc : (gs.length : Int) = (ds.length : Int) ∧ gs.any (badRow (ds.length : Int)) = false
    · have e : (gs.all (fun r => !badRow (ds.length : Int) r) && decide ((gs.length : Int) = (ds.length : Int))) = true := by
        rw [decide_eq_true hc.1, Bool.and_true, ← List.not_any_eq_all_not, hc.2]
        rfl
      rw [e] at hR
      obtain ⟨h1, h2⟩ := miss_l0 a ds os gs hn (by omega) hg gs.length 0 [] (by omega) (by simp)
      rw [show missOut ds gs ds.length gs.length 0 [] = missOut ds gs ds.length ds.length 0 [] by rw [show gs.length = ds.length by omega]] at h1 h2
      rw [if_pos hc]
      exact ⟨_, ev_bind hs (ev_ite_pos rfl (ev_bind hR (ev_step h1 fun k => by rw [spec_MissedBy.j0, if_neg (by simp)]; rfl))), rfl, h2⟩
    · have e : (gs.all (fun r => !badRow (ds.length : Int) r) && decide ((gs.length : Int) = (ds.length : Int))) = false := by
        cases hv : (gs.all (fun r => !badRow (ds.length : Int) r) && decide ((gs.length : Int) = (ds.length : Int))) with
        | false => rfl
        | true =>
          simp only [Bool.and_eq_true, decide_eq_true_eq] at hv
          refine absurd ⟨hv.2, ?_⟩ hc
          have h1 := hv.1
          rw [← List.not_any_eq_all_not] at h1
          simpa using h1
      rw [e] at hR
      rw [if_neg hc]
      exact ⟨([], false), ev_bind hs (ev_ite_pos rfl (ev_bind hR noS)), rfl, by simp⟩
theorem FnExactMissedBy : laws_FnExactMissedBy.Good := by
  rintro ⟨a, ds, os⟩ gs ⟨_, ⟨hd, _⟩, ho, ho2⟩ ⟨hg, hg2⟩
  simp only at hd ho ho2 ⊢
  unfold laws_FnExactMissedBy.Pass
  obtain ⟨t, ht, hw, hle⟩ := szheard a ds os hd ho fun x hx => (ho2 x hx).1
  by_cases h0 : t < 0
  · exact ((Evs.ev ht).mono fun k h => ⟨t, h, .inl h0⟩).now
  obtain ⟨u, hu, hw2, _⟩ := szssT gs hg (fun x hx => (hg2 x hx).1) t (by omega) hle
  by_cases h1 : u < 0
  · exact (((Evs.ev ht).and (Evs.ev hu)).mono fun k ⟨d0, d1⟩ => ⟨t, d0, .inr ⟨h0, u, d1, .inl h1⟩⟩).now
  obtain ⟨hd2, hwo⟩ := hw (by omega)
  have hwg : weigh gs ≤ 1048576 := by have := hw2 (by omega); omega
  have tH := toHeard_tells a ds os hd2 hwo
  have hl : (ds.map convDeed).length ≤ 1048576 := by simp; omega
  generalize ds.map convDeed = e at tH hl
  obtain ⟨⟨x, b⟩, hs, hi, hx⟩ := missed_same a e os gs (weigh_len hwo) (weigh_rows hwo) (weigh_len hwg) (weigh_rows hwg)
  simp only at hx
  obtain ⟨n, z, y, hm, n0, n1⟩ := markHeard_tells a e os hl hwo
  have m1 := markss_tells gs n hwg n0 (by omega)
  have m2 := markInt_tells x 1 (by omega) (by omega)
  have m3 := heldInt_tells 1 x.length (by omega) (by omega)
  exact (((Evs.ev ht).and ((Evs.ev hu).and ((Evs.ev tH).and ((Evs.ev (toss_tells gs hwg)).and ((Evs.ev hs).and ((Evs.ev (eqints_tells x (by omega))).and ((Evs.ev (eqHeard_tells a e os hl hwo)).and ((Evs.ev (eqss_weigh gs hwg)).and ((Evs.ev hm).and ((Evs.ev m1).and ((Evs.ev m2).and (Evs.ev m3)))))))))))).mono fun k ⟨c0, c1, c2, c3, c4, c6, c7, c8, c9, c10, c11, c12⟩ => ⟨t, c0, .inr ⟨h0, u, c1, .inr ⟨h1, _, _, _, _, x, b, _, _, _, _, _, _, _, c2, c3, c4, hi, c6, c7, c8, c9, c10, c11, c12, by omega, by omega⟩⟩⟩).now

end Go.Proofs.Ytbaojaadmooogaa.Pure
