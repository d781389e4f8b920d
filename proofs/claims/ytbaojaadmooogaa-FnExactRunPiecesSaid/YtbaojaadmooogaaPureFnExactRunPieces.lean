/- The law FnExactRunPieces: the program's function tells what the reference tells, for all arguments; here: of the two as plain functions of numbers and lists. -/
import Derived.Test.YtbaojaadmooogaaQFnExactRunPieces
namespace Go.Proofs.Ytbaojaadmooogaa.Pure
open Go.RowKit Go.Proofs.Ytbaojaadmooogaa.PFnExactRunPieces Go.Proofs.YtbaojaadmooogaaW.PrintWords Go.Proofs.YtbaojaadmooogaaW.PrintLast Go.Proofs.YtbaojaadmooogaaW.PrintMore
set_option linter.unusedVariables false
set_option linter.unusedSimpArgs false
set_option linter.unnecessarySimpa false

def cellOf (s : S98) : Int := wrap64 (wrap64 (4 * s.f1) + s.f2)

theorem sin_tells (a b c : Int) : spec_l1In.f a b c = some (decide (b ≤ a) && decide (a ≤ c)) := by
  unfold spec_l1In.f
  by_cases h : a ≥ b
  · rw [if_pos h]; simp [show b ≤ a from h]
  · rw [if_neg h]; simp [show ¬ b ≤ a from h]

def inB (a b x : Int) : Bool := decide (a ≤ x) && decide (x ≤ b)
theorem drop_at (l : List Int) (i : Nat) (h : i < l.length) : l.drop i = l.getD i 0 :: l.drop (i + 1) := by
  rw [List.drop_eq_getElem_cons h]
  simp [List.getD, List.getElem?_eq_getElem h]
/-- What a search for a fault comes to, round by round. -/
theorem all_ends {F : Nat → Nat → Option Bool} {p : Nat → Bool} {r : Bool} {n : Nat} (stop : Ev (fun k => F k n) r) (go : ∀ i, i < n → p i = true → ∀ q, Ev (fun k => F k (i + 1)) q → Ev (fun k => F k i) q) (no : ∀ i, i < n → p i = false → Ev (fun k => F k i) false) :
    ∀ (d i : Nat), i + d = n → Ev (fun k => F k i) ((List.range' i d).all p && r)
  | 0, i, h => by
    obtain rfl : i = n := by omega
    simpa using stop
  | d + 1, i, h => by
    have ih := all_ends stop go no d (i + 1) (by omega)
    rw [List.range'_succ, List.all_cons, Bool.and_assoc]
    cases hp : p i with
    | true => simpa using go i (by omega) hp _ ih
    | false => simpa using no i (by omega) hp
theorem all_from {F : Nat → Nat → Option Bool} {p : Nat → Bool} {r : Bool} {n : Nat} (stop : Ev (fun k => F k n) r) (go : ∀ i, i < n → p i = true → ∀ q, Ev (fun k => F k (i + 1)) q → Ev (fun k => F k i) q) (no : ∀ i, i < n → p i = false → Ev (fun k => F k i) false) :
    Ev (fun k => F k 0) ((List.range n).all p && r) := by
  rw [List.range_eq_range']
  exact all_ends stop go no n 0 (by omega)
theorem next (i : Nat) (h : i < 4611686018427387904) : wrap64 ((i : Int) + 1) = ((i + 1 : Nat) : Int) := by
  rw [w64 (by omega) (by omega)]
  omega

def convStep (x : S100) : S98 := ⟨x.f0, x.f1, x.f2, x.f3, x.f4⟩
theorem toStep_l (l : List S100) (hl : l.length ≤ 4611686018427387903) : ∀ (d i : Nat) (m : List S98), m.length = l.length → i + d = l.length → m.take i = (l.map convStep).take i → Ev (fun k => laws_toStepS.l0 k l m (i : Int)) (l.map convStep)
  | 0, i, m, hm, h, ht => ev_stop fun k => by
    rw [laws_toStepS.l0, if_neg (by omega)]
    rw [List.take_of_length_le (by omega), List.take_of_length_le (by simp; omega)] at ht
    rw [ht]
  | d + 1, i, m, hm, h, ht => by
    refine ev_step (toStep_l l hl d (i + 1) (m.set i (convStep (l.getD i z100))) (by simpa using hm) (by omega) ?_) fun k => by
      rw [laws_toStepS.l0, if_pos (by omega), if_pos (by omega)]
      unfold laws_toStep.f
      rw [Option.bind_some, if_pos (by omega), next i (by omega)]
      rfl
    rw [List.take_succ_eq_append_getElem (by simp; omega), List.take_succ_eq_append_getElem (by simp; omega), List.take_set_of_le (Nat.le_refl i), ht]
    simp [List.getD, List.getElem?_eq_getElem (show i < l.length by omega)]
theorem toStep_tells (l : List S100) (hl : l.length ≤ 1048576) : Ev (fun k => laws_toStepS.f k l) (l.map convStep) := by
  refine Ev.congr (g := fun k => laws_toStepS.f k l) (fun k => ?_) (toStep_l l (by omega) l.length 0 (List.replicate l.length z98) (by simp) (by omega) (by simp))
  unfold laws_toStepS.f
  rw [if_pos (by omega), if_pos (by omega), Int.toNat_natCast]
  rfl
theorem eqStep_l (l : List S98) (hl : l.length ≤ 4611686018427387903) : ∀ (d i : Nat), i + d = l.length → Ev (fun k => laws_eqStepS.l0 k l l (i : Int)) true
  | 0, i, h => ev_stop fun k => by
    rw [laws_eqStepS.l0, if_neg (by omega)]
  | d + 1, i, h => by
    refine ev_step (eqStep_l l hl d (i + 1) (by omega)) fun k => by
      rw [laws_eqStepS.l0, if_pos (by omega), if_pos (by omega), if_pos (by omega)]
      unfold laws_eqStep.f
      simp [next i (by omega)]
theorem eqStep_tells (l : List S98) (hl : l.length ≤ 4611686018427387903) : Ev (fun k => laws_eqStepS.f k l l) true := by
  refine Ev.congr (g := fun k => laws_eqStepS.f k l l) (fun k => ?_) (eqStep_l l hl l.length 0 (by omega))
  unfold laws_eqStepS.f
  rw [if_pos rfl]
  rfl

def stepOk (s : S98) (i : Int) : Bool :=
  (inB 0 2 s.f1 && inB 0 3 s.f2) && (if s.f0 = 1 then (decide (s.f3 = 0) && decide (s.f4 = 0)) else if s.f0 = 2 then (decide (s.f2 = 0) && (inB 0 (wrap64 (i - 1)) s.f3 && inB (-99) 99 s.f4)) else if s.f0 = 3 then (inB 0 (wrap64 (i - 1)) s.f3 && decide (s.f4 = 0)) else false)
def stepsB (l : List S98) : Bool := (List.range l.length).all (fun i => stepOk (rd_T98 l i) i) && decide (l.length ≤ 10)
theorem isStep_tells (k : Nat) (s : S98) (i : Int) : impl_isStep.f (k + 1) s.f0 s.f1 s.f2 s.f3 s.f4 i = some (stepOk s i) := by
  unfold impl_isStep.f stepOk
  simp only [within_tells, Option.bind_some, impl_isStep.j0]
  unfold inB
  cases (decide (0 ≤ s.f1) && decide (s.f1 ≤ 2)) with
  | false => simp
  | true =>
    cases (decide (0 ≤ s.f2) && decide (s.f2 ≤ 3)) with
    | false => simp
    | true =>
      by_cases h1 : s.f0 = 1
      · by_cases h2 : s.f3 = 0 <;> simp [h1, h2] <;> rfl
      · by_cases h2 : s.f0 = 2
        · by_cases h3 : s.f2 = 0
          · cases h4 : (decide (0 ≤ s.f3) && decide (s.f3 ≤ wrap64 (i - 1))) <;> simp [h1, h2, h3, h4]
          · simp [h1, h2, h3]
        · by_cases h3 : s.f0 = 3
          · cases h4 : (decide (0 ≤ s.f3) && decide (s.f3 ≤ wrap64 (i - 1))) <;> simp [h1, h2, h3, h4] <;> rfl
          · simp [h1, h2, h3]
theorem goodsteps_tells (l : List S98) (hl : l.length ≤ 1048576) : Ev (fun k => impl_GoodSteps.f k l) (stepsB l) := by
  have round : ∀ (i : Nat), i < l.length → ∀ q, Ev (fun k => if stepOk (rd_T98 l i) i = true then impl_GoodSteps.l0 k l l (l.length : Int) ((i + 1 : Nat) : Int) else some false) q → Ev (fun k => impl_GoodSteps.l0 k l l (l.length : Int) (i : Int)) q := by
    intro i hi q hq
    refine Ev.step (f := fun k => (impl_isStep.f k (rd_T98 l i).f0 (rd_T98 l i).f1 (rd_T98 l i).f2 (rd_T98 l i).f3 (rd_T98 l i).f4 i).bind fun t => if t = true then impl_GoodSteps.l0 k l l (l.length : Int) ((i + 1 : Nat) : Int) else some false) (fun k => ?_) ?_
    · rw [impl_GoodSteps.l0, if_pos (by omega), if_pos (by omega), if_pos (by omega), next i (by omega)]
    · exact ev_bind (Ev.step (fun k => isStep_tells k _ _) (Ev.now _)) hq
  refine all_from (F := fun k i => impl_GoodSteps.l0 k l l (l.length : Int) (i : Int)) (ev_stop fun k => ?_) (fun i hi hp q hq => round i hi q ?_) (fun i hi hp => round i hi _ ?_)
  · rw [impl_GoodSteps.l0, if_neg (by omega)]
    congr 1
    exact decide_eq_decide.2 (by omega)
  · exact ev_ite_pos hp hq
  · exact ev_ite_neg (by simp [hp]) (ev_some fun _ => rfl)
theorem sgood_j (k : Nat) (l x6 : List S98) (n i : Int) (s : S98) : spec_GoodSteps.j1 (k + 1) l i x6 n i (!(inB 0 2 s.f1 && inB 0 3 s.f2 && inB (-99) 99 s.f4)) s.f0 s.f1 s.f2 s.f3 s.f4 = if stepOk s i = true then spec_GoodSteps.l0 k l x6 n (wrap64 (i + 1)) else some false := by
  rw [spec_GoodSteps.j1]
  unfold stepOk
  rw [sin_tells, Option.bind_some]
  change (if (!(inB 0 2 s.f1 && inB 0 3 s.f2 && inB (-99) 99 s.f4)) = true then _ else if s.f0 = 1 then _ else if s.f0 = 2 then if inB 0 (wrap64 (i - 1)) s.f3 = true then _ else _ else if s.f0 = 3 then if inB 0 (wrap64 (i - 1)) s.f3 = true then _ else _ else _) = _
  have h0 : inB (-99) 99 0 = true := by decide
  cases inB 0 2 s.f1 <;> cases inB 0 3 s.f2 <;> try (simp; done)
  by_cases h1 : s.f0 = 1
  · by_cases h4 : s.f4 = 0
    · by_cases h3 : s.f3 = 0 <;> simp [h1, h3, h4, h0]
    · cases inB (-99) 99 s.f4 <;> simp [h1, h4]
  · by_cases h2 : s.f0 = 2
    · cases inB (-99) 99 s.f4 <;> cases inB 0 (wrap64 (i - 1)) s.f3 <;> by_cases h3 : s.f2 = 0 <;> simp [h1, h2, h3]
    · by_cases h3 : s.f0 = 3
      · by_cases h4 : s.f4 = 0
        · cases inB 0 (wrap64 (i - 1)) s.f3 <;> simp [h1, h2, h3, h4, h0]
        · cases inB (-99) 99 s.f4 <;> simp [h1, h2, h3, h4]
      · simp [h1, h2, h3]
theorem sgoodsteps_tells (l : List S98) (hl : l.length ≤ 1048576) : Ev (fun k => spec_GoodSteps.f k l) (stepsB l) := by
  have round : ∀ (i : Nat), i < l.length → ∀ q, Ev (fun k => if stepOk (rd_T98 l i) i = true then spec_GoodSteps.l0 k l l (l.length : Int) ((i + 1 : Nat) : Int) else some false) q → Ev (fun k => spec_GoodSteps.l0 k l l (l.length : Int) (i : Int)) q := by
    intro i hi q hq
    generalize hs : rd_T98 l i = s at hq
    refine Ev.step (f := fun k => spec_GoodSteps.j1 k l i l (l.length : Int) i (!(inB 0 2 s.f1 && inB 0 3 s.f2 && inB (-99) 99 s.f4)) s.f0 s.f1 s.f2 s.f3 s.f4) (fun k => ?_) (Ev.step (fun k => by rw [sgood_j, next i (by omega)]) hq)
    rw [spec_GoodSteps.l0, if_pos (by omega), if_pos (by omega), if_pos (by omega), hs]
    simp only [sin_tells, Option.bind_some]
    change (if inB 0 2 s.f1 = true then if inB 0 3 s.f2 = true then spec_GoodSteps.j1 _ _ _ _ _ _ (!(inB (-99) 99 s.f4)) _ _ _ _ _ else _ else _) = _
    cases inB 0 2 s.f1 <;> cases inB 0 3 s.f2 <;> simp
  refine all_from (F := fun k i => spec_GoodSteps.l0 k l l (l.length : Int) (i : Int)) (ev_stop fun k => ?_) (fun i hi hp q hq => round i hi q ?_) (fun i hi hp => round i hi _ ?_)
  · rw [spec_GoodSteps.l0, if_neg (by omega)]
    congr 1
    exact decide_eq_decide.2 (by omega)
  · exact ev_ite_pos hp hq
  · exact ev_ite_neg (by simp [hp]) (ev_some fun _ => rfl)
theorem stepsB_ok {l : List S98} (h : stepsB l = true) : (∀ i, i < l.length → stepOk (rd_T98 l i) i = true) ∧ l.length ≤ 10 := by
  unfold stepsB at h
  simp only [Bool.and_eq_true, List.all_eq_true, List.mem_range, decide_eq_true_eq] at h
  exact h

theorem sall_l (l : List Int) (a b : Int) (hl : l.length ≤ 4611686018427387904) : ∀ (d i : Nat), i + d = l.length → Ev (fun k => spec_l1All.l0 k a b l (l.length : Int) (i : Int)) ((l.drop i).all (inB a b))
  | 0, i, h => ev_stop fun k => by
    rw [spec_l1All.l0, if_neg (by omega), List.drop_of_length_le (by omega)]
    rfl
  | d + 1, i, h => by
    have ih := sall_l l a b hl d (i + 1) (by omega)
    have h1 : wrap64 ((i : Int) + 1) = ((i + 1 : Nat) : Int) := by rw [w64 (by omega) (by omega)]; omega
    rw [drop_at l i (by omega), List.all_cons]
    refine Ev.step (f := fun k => if inB a b (l.getD i 0) = true then spec_l1All.l0 k a b l (l.length : Int) ((i + 1 : Nat) : Int) else some false) (fun k => by
      rw [spec_l1All.l0, if_pos (by omega), if_pos (by omega), if_pos (by omega), sin_tells, Option.bind_some, h1, rdn]
      rfl) ?_
    cases inB a b (l.getD i 0) with
    | true => simpa using ih
    | false => exact ⟨0, fun k _ => by simp⟩
theorem sall_tells (l : List Int) (a b : Int) (hl : l.length ≤ 4611686018427387904) : Ev (fun k => spec_l1All.f k l a b) (l.all (inB a b)) := by
  have h := sall_l l a b hl l.length 0 (by omega)
  rw [List.drop_zero] at h
  exact h

def storeB (l : List Int) : Bool := decide (l.length = 12) && l.all (inB (-1000000) 1000000)
theorem sstore_tells (l : List Int) (hl : l.length ≤ 1048576) : Ev (fun k => spec_l15Store.f k l) (storeB l) := by
  unfold spec_l15Store.f storeB
  by_cases h : l.length = 12
  · refine ev_ite_pos (by omega) (ev_bind (sall_tells l (-1000000) 1000000 (by omega)) (ev_some fun _ => ?_))
    simp [h]
  · refine ev_ite_neg (by omega) (ev_some fun _ => ?_)
    simp [h]
theorem store_tells (l : List Int) : impl_isStore.f l = some (storeB l) := rfl
/-- What a step tells, and the store behind it. -/
def stepGo (st told : List Int) (s : S98) : Int × List Int :=
  if s.f0 = 1 then (rd st (cellOf s), st) else if s.f0 = 2 then (Int.tmod (wrap64 (rd told s.f3 + s.f4)) 1000, st) else (rd told s.f3, st.set (cellOf s).toNat (rd told s.f3))
theorem stepGo_len (st told : List Int) (s : S98) : (stepGo st told s).2.length = st.length := by
  unfold stepGo
  split
  · rfl
  · split <;> simp
theorem stepOk_facts {s : S98} {i : Nat} (hi : i ≤ 1048576) (h : stepOk s i = true) : 0 ≤ cellOf s ∧ cellOf s < 12 ∧ (s.f0 = 1 ∨ (s.f0 ≠ 1 ∧ 0 ≤ s.f3 ∧ s.f3 < i)) := by
  unfold stepOk inB at h
  have e : wrap64 ((i : Int) - 1) = (i : Int) - 1 := w64 (by omega) (by omega)
  rw [e] at h
  simp only [Bool.and_eq_true, decide_eq_true_eq] at h
  obtain ⟨⟨⟨a1, a2⟩, a3, a4⟩, hb⟩ := h
  have c : cellOf s = 4 * s.f1 + s.f2 := by
    have e1 : wrap64 (4 * s.f1) = 4 * s.f1 := w64 (by omega) (by omega)
    unfold cellOf
    rw [e1, w64 (by omega) (by omega)]
  refine ⟨by omega, by omega, ?_⟩
  by_cases h1 : s.f0 = 1
  · exact .inl h1
  · rw [if_neg h1] at hb
    by_cases h2 : s.f0 = 2
    · rw [if_pos h2] at hb
      simp only [Bool.and_eq_true, decide_eq_true_eq] at hb
      exact .inr ⟨h1, by omega, by omega⟩
    · rw [if_neg h2] at hb
      by_cases h3 : s.f0 = 3
      · rw [if_pos h3] at hb
        simp only [Bool.and_eq_true, decide_eq_true_eq] at hb
        exact .inr ⟨h1, by omega, by omega⟩
      · rw [if_neg h3] at hb
        exact absurd hb (by simp)
theorem step_i (st told : List Int) (s : S98) (hs : st.length = 12) (h0 : 0 ≤ cellOf s) (h1 : cellOf s < 12) (h2 : s.f0 = 1 ∨ (s.f0 ≠ 1 ∧ 0 ≤ s.f3 ∧ s.f3 < told.length)) : impl_Step_run.f s.f0 s.f1 s.f2 s.f3 s.f4 st told = some (stepGo st told s) := by
  unfold impl_Step_run.f impl_Step_cell.f stepGo
  change (if s.f0 = 1 then (some (cellOf s)).bind _ else if s.f0 = 2 then _ else (some (cellOf s)).bind _) = _
  rcases h2 with h2 | ⟨h2, h3, h4⟩
  · rw [if_pos h2, if_pos h2, Option.bind_some, if_pos h0, if_pos (by omega)]
  · rw [if_neg h2, if_neg h2]
    by_cases h5 : s.f0 = 2
    · rw [if_pos h5, if_pos h5, if_pos h3, if_pos h4]
    · rw [if_neg h5, if_neg h5, Option.bind_some, if_pos h3, if_pos h4, if_pos h0, if_pos (by omega)]
theorem step_s (st told : List Int) (l : List S98) (i : Nat) (hi : i < l.length) (ht : told.length = l.length) (hs : st.length = 12) (h0 : 0 ≤ cellOf (rd_T98 l i)) (h1 : cellOf (rd_T98 l i) < 12) (h2 : (rd_T98 l i).f0 = 1 ∨ ((rd_T98 l i).f0 ≠ 1 ∧ 0 ≤ (rd_T98 l i).f3 ∧ (rd_T98 l i).f3 < told.length)) : spec_l15Step.f st told l (i : Int) = some ((stepGo st told (rd_T98 l i)).2, told.set i (stepGo st told (rd_T98 l i)).1) := by
  unfold spec_l15Step.f
  rw [if_pos (by omega), if_pos (by omega)]
  generalize rd_T98 l i = s at h0 h1 h2
  unfold stepGo
  change (if s.f0 = 1 then if 0 ≤ cellOf s then if cellOf s < (st.length : Int) then _ else _ else _ else if s.f0 = 2 then _ else if 0 ≤ s.f3 then if s.f3 < (told.length : Int) then if 0 ≤ cellOf s then if cellOf s < (st.length : Int) then _ else _ else _ else _ else _) = _
  rcases h2 with h2 | ⟨h2, h3, h4⟩
  · rw [if_pos h2, if_pos h2, if_pos h0, if_pos (by omega), if_pos (by omega)]
    rfl
  · rw [if_neg h2, if_neg h2]
    by_cases h5 : s.f0 = 2
    · rw [if_pos h5, if_pos h5, if_pos h3, if_pos h4, if_pos (by omega)]
      rfl
    · rw [if_neg h5, if_neg h5, if_pos h3, if_pos h4, if_pos h0, if_pos (by omega), if_pos (by omega)]
      rfl

theorem rows_sum : ∀ (l : List (List Int)) (n : Nat), (∀ r ∈ l, r.length ≤ n) → (l.map List.length).sum ≤ l.length * n
  | [], n, _ => by simp
  | r :: l, n, h => by
    have h1 := h r (by simp)
    have h2 := rows_sum l n fun x hx => h x (List.mem_cons_of_mem _ hx)
    rw [List.map_cons, List.sum_cons, List.length_cons, Nat.add_mul]
    omega
theorem shard_ok {s : S98} {i : Int} (h : stepOk s i = true) : 0 ≤ s.f1 ∧ s.f1 < 3 := by
  unfold stepOk inB at h
  simp only [Bool.and_eq_true, decide_eq_true_eq] at h
  omega
theorem row_len (x : List (List Int)) (j : Int) (n : Nat) (h : ∀ r ∈ x, r.length ≤ n) : (rd_L3 x j).length ≤ n := by
  unfold rd_L3
  rw [List.getD]
  cases hq : x[j.toNat]? with
  | none => simp
  | some v => exact h v (List.mem_of_getElem? hq)

/-- A rising row: its numbers as a set. -/
abbrev Up (l : List Int) : Prop := l.Pairwise (· < ·)
theorem up_ext : ∀ {l m : List Int}, Up l → Up m → (∀ y, y ∈ l ↔ y ∈ m) → l = m
  | [], [], _, _, _ => rfl
  | [], b :: m, _, _, h => by simpa using (h b).2 (by simp)
  | a :: l, [], _, _, h => by simpa using (h a).1 (by simp)
  | a :: l, b :: m, hl, hm, h => by
    have l1 := List.pairwise_cons.1 hl
    have m1 := List.pairwise_cons.1 hm
    have e : a = b := by
      rcases List.mem_cons.1 ((h a).1 (by simp)) with e | e
      · exact e
      · rcases List.mem_cons.1 ((h b).2 (by simp)) with e2 | e2
        · exact e2.symm
        · have := l1.1 b e2
          have := m1.1 a e
          omega
    subst e
    congr 1
    refine up_ext l1.2 m1.2 fun y => ⟨fun hy => ?_, fun hy => ?_⟩
    · rcases List.mem_cons.1 ((h y).1 (List.mem_cons_of_mem _ hy)) with e | e
      · have := l1.1 y hy
        omega
      · exact e
    · rcases List.mem_cons.1 ((h y).2 (List.mem_cons_of_mem _ hy)) with e | e
      · have := m1.1 y hy
        omega
      · exact e
def ins (x : Int) : List Int → List Int
  | [] => [x]
  | a :: l => if a < x then a :: ins x l else if a = x then a :: l else x :: a :: l
theorem mem_ins (x y : Int) : ∀ l : List Int, y ∈ ins x l ↔ y = x ∨ y ∈ l
  | [] => by simp [ins]
  | a :: l => by
    unfold ins
    split
    · rw [List.mem_cons, mem_ins x y l, List.mem_cons]
      exact ⟨fun h => h.elim (fun h => .inr (.inl h)) (fun h => h.elim .inl (fun h => .inr (.inr h))), fun h => h.elim (fun h => .inr (.inl h)) (fun h => h.elim .inl (fun h => .inr (.inr h)))⟩
    · split
      · rename_i h
        subst h
        simp
      · simp
theorem up_ins (x : Int) : ∀ {l : List Int}, Up l → Up (ins x l)
  | [], _ => by simp [ins]
  | a :: l, h => by
    have h1 := List.pairwise_cons.1 h
    unfold ins
    split
    · rename_i hx
      refine List.pairwise_cons.2 ⟨fun y hy => ?_, up_ins x h1.2⟩
      rcases (mem_ins x y l).1 hy with e | e
      · omega
      · exact h1.1 y e
    · split
      · exact h
      · refine List.pairwise_cons.2 ⟨fun y hy => ?_, h⟩
        rcases List.mem_cons.1 hy with e | e
        · omega
        · have := h1.1 y e
          omega
theorem ins_len (x : Int) : ∀ l : List Int, (ins x l).length ≤ l.length + 1
  | [] => by simp [ins]
  | a :: l => by
    have := ins_len x l
    unfold ins
    split
    · simp; omega
    · split <;> simp
theorem upto_of {d : Array Int} (hs : ∀ i j, i ≤ j → j < d.size → d[i]! ≤ d[j]!) : ∀ m, m ≤ d.size → Up (Lib.compactUpTo d m) ∧ ∀ y, y ∈ Lib.compactUpTo d m ↔ ∃ j, j < m ∧ d[j]! = y
  | 0, _ => by simp [Lib.compactUpTo]
  | m + 1, hm => by
    obtain ⟨h1, h2⟩ := upto_of hs m (by omega)
    rw [Lib.compactUpTo_succ]
    by_cases hk : Lib.keeps d m = true
    · rw [if_pos hk]
      refine ⟨List.pairwise_append.2 ⟨h1, by simp, fun y hy z hz => ?_⟩, fun y => ?_⟩
      · obtain ⟨j, hj, rfl⟩ := (h2 y).1 hy
        obtain rfl : z = d[m]! := by simpa using hz
        have hne : d[m]! ≠ d[m - 1]! := by
          simp only [Lib.keeps, decide_eq_true_eq] at hk
          rcases hk with h | h
          · omega
          · exact h
        have a1 := hs j (m - 1) (by omega) (by omega)
        have a2 := hs (m - 1) m (by omega) (by omega)
        omega
      · rw [List.mem_append, h2]
        constructor
        · rintro (⟨j, hj, e⟩ | e)
          · exact ⟨j, by omega, e⟩
          · exact ⟨m, by omega, (List.mem_singleton.1 e).symm⟩
        · rintro ⟨j, hj, e⟩
          by_cases hjm : j < m
          · exact .inl ⟨j, hjm, e⟩
          · obtain rfl : j = m := by omega
            exact .inr (by simp [e])
    · rw [if_neg hk, List.append_nil]
      refine ⟨h1, fun y => ?_⟩
      rw [h2]
      have hk2 : m ≠ 0 ∧ d[m]! = d[m - 1]! := by simpa [Lib.keeps] using hk
      constructor
      · rintro ⟨j, hj, e⟩
        exact ⟨j, by omega, e⟩
      · rintro ⟨j, hj, e⟩
        by_cases hjm : j < m
        · exact ⟨j, hjm, e⟩
        · obtain rfl : j = m := by omega
          exact ⟨j - 1, by omega, by rw [← hk2.2]; exact e⟩
/-- Sorted, and each but once: the rising row of the numbers. -/
def setOf (l : List Int) : List Int := Lib.compact (l.mergeSort fun x y => decide (x ≤ y))
theorem sort_le (l : List Int) : (l.mergeSort fun x y => decide (x ≤ y)).Pairwise (· ≤ ·) := by
  have h := List.pairwise_mergeSort (le := fun x y : Int => decide (x ≤ y)) (fun a b c h1 h2 => by simp only [decide_eq_true_eq] at *; omega) (fun a b => by simp only [Bool.or_eq_true, decide_eq_true_eq]; omega) l
  exact h.imp (fun h => by simpa using h)
theorem setOf_up_mem (l : List Int) : Up (setOf l) ∧ ∀ y, y ∈ setOf l ↔ y ∈ l := by
  have hs := sort_le l
  have hm : ∀ y, y ∈ (l.mergeSort fun x y => decide (x ≤ y)) ↔ y ∈ l := fun y => List.mem_mergeSort
  unfold setOf
  generalize (l.mergeSort fun x y => decide (x ≤ y)) = s at hs hm
  unfold Lib.compact
  obtain ⟨h1, h2⟩ := upto_of (d := s.toArray) (fun i j hij hj => by
    have hj' : j < s.length := by simpa using hj
    rw [getElem!_pos s.toArray i (by simp; omega), getElem!_pos s.toArray j (by simp; omega)]
    simp only [List.getElem_toArray]
    by_cases e : i = j
    · subst e
      exact Int.le_refl _
    · exact List.pairwise_iff_getElem.1 hs i j (by omega) hj' (by omega)) s.length (by simp)
  refine ⟨h1, fun y => (h2 y).trans (Iff.trans ?_ (hm y))⟩
  constructor
  · rintro ⟨j, hj, e⟩
    rw [getElem!_pos s.toArray j (by simpa using hj)] at e
    rw [← e]
    simp
  · intro hy
    obtain ⟨j, hj, e⟩ := List.mem_iff_getElem.1 hy
    exact ⟨j, hj, by rw [getElem!_pos s.toArray j (by simpa using hj)]; simpa using e⟩
theorem setOf_ins {l : List Int} (h : Up l) (x : Int) : setOf (l ++ [x]) = ins x l := by
  obtain ⟨h1, h2⟩ := setOf_up_mem (l ++ [x])
  refine up_ext h1 (up_ins x h) fun y => (h2 y).trans ?_
  rw [mem_ins, List.mem_append, List.mem_singleton]
  exact Or.comm
theorem set_add {L : List Int} (x : Int) : setOf (L ++ [x]) = ins x (setOf L) := by
  obtain ⟨h1, h2⟩ := setOf_up_mem (L ++ [x])
  obtain ⟨h3, h4⟩ := setOf_up_mem L
  refine up_ext h1 (up_ins x h3) fun y => (h2 y).trans ?_
  rw [mem_ins, h4, List.mem_append, List.mem_singleton]
  exact Or.comm
theorem setOf_len (L : List Int) : (setOf L).length ≤ L.length := by
  unfold setOf
  exact Nat.le_trans (Lib.compact_length_le _) (by simp)
theorem sort_nodup {L : List Int} (h : L.Nodup) : (L.mergeSort fun x y => decide (x ≤ y)) = setOf L := by
  obtain ⟨h3, h4⟩ := setOf_up_mem L
  have hs := sort_le L
  have hp : (L.mergeSort fun x y => decide (x ≤ y)).Nodup := (List.mergeSort_perm L _).nodup_iff.2 h
  have hu : Up (L.mergeSort fun x y => decide (x ≤ y)) := by
    refine (List.pairwise_iff_getElem.2 fun i j hi hj hij => ?_)
    have a := List.pairwise_iff_getElem.1 hs i j hi hj hij
    have b := List.pairwise_iff_getElem.1 hp i j hi hj hij
    omega
  exact up_ext hu h3 fun y => List.mem_mergeSort.trans (h4 y).symm

theorem put_l (l : List Int) (x : Int) (hl : l.length ≤ 1000000000) : ∀ (d i : Nat), i + d = l.length → Ev (fun k => spec_l1Put.l0 k l x (i : Int)) (l.take i ++ ins x (l.drop i))
  | 0, i, h => ev_stop fun k => by
    rw [spec_l1Put.l0, if_neg (by omega)]
    simp only [Option.bind_some, Int.toNat_natCast, List.nil_append, List.length_nil, Nat.zero_add]
    rw [if_pos (by omega), if_pos (by omega), if_pos (by simp; omega), if_pos (by simp; omega), if_pos (by simp; omega), List.drop_of_length_le (by omega)]
    simp [ins]
  | d + 1, i, h => by
    have ih := put_l l x hl d (i + 1) (by omega)
    rw [drop_at l i (by omega), ins]
    have ha := drop_at l i (by omega)
    by_cases h1 : l.getD i 0 < x
    · rw [if_pos h1]
      refine ev_step (by
        have e : l.take (i + 1) = l.take i ++ [l.getD i 0] := by
          rw [List.take_succ_eq_append_getElem (by omega)]
          simp [List.getD, List.getElem?_eq_getElem (show i < l.length by omega)]
        rw [e, List.append_assoc] at ih
        exact ih) fun k => by
        rw [spec_l1Put.l0, if_pos (by omega), if_pos (by omega), rdn, if_pos h1, next i (by omega)]
    · rw [if_neg h1]
      by_cases h2 : l.getD i 0 = x
      · rw [if_pos h2]
        exact ev_stop fun k => by
          rw [spec_l1Put.l0, if_pos (by omega), if_pos (by omega), rdn, if_neg h1, if_pos h2, ← ha, List.take_append_drop]
      · rw [if_neg h2]
        exact ev_stop fun k => by
          rw [spec_l1Put.l0, if_pos (by omega), if_pos (by omega), rdn, if_neg h1, if_neg h2]
          simp only [Option.bind_some, Int.toNat_natCast, List.nil_append, List.length_nil, Nat.zero_add]
          rw [if_pos (by omega), if_pos (by simp; omega), if_pos (by simp; omega), if_pos (by simp; omega), ha]
          simp
theorem put_tells (l : List Int) (x : Int) (hl : l.length ≤ 1000000000) : Ev (fun k => spec_l1Put.f k l x) (ins x l) := by
  have h := put_l l x hl l.length 0 (by omega)
  rw [List.drop_zero, List.take_zero, List.nil_append] at h
  exact h

theorem rdL3 (l : List (List Int)) (i : Nat) : rd_L3 l (i : Int) = l.getD i [] := by simp [rd_L3]
theorem drop_row (l : List (List Int)) (i : Nat) (h : i < l.length) : l.drop i = l.getD i [] :: l.drop (i + 1) := by
  rw [List.drop_eq_getElem_cons h]
  simp [List.getD, List.getElem?_eq_getElem h]
theorem concat_l1 (ls : List (List Int)) (hl : ls.length ≤ 4611686018427387903) : ∀ (d i : Nat) (acc : List Int), i + d = ls.length → acc.length + (ls.drop i).flatten.length < 17592186044416 → Ev (fun k => slices_Concat_int_int.l1 k acc ls (ls.length : Int) (i : Int)) (acc ++ (ls.drop i).flatten)
  | 0, i, acc, h, _ => ev_stop fun k => by
    rw [slices_Concat_int_int.l1, if_neg (by omega), List.drop_of_length_le (by omega)]
    simp
  | d + 1, i, acc, h, hb => by
    rw [drop_row ls i (by omega), List.flatten_cons, List.length_append] at hb
    have ih := concat_l1 ls hl d (i + 1) (acc ++ ls.getD i []) (by omega) (by rw [List.length_append]; omega)
    rw [drop_row ls i (by omega), List.flatten_cons, ← List.append_assoc]
    exact ev_step ih fun k => by
      rw [slices_Concat_int_int.l1, if_pos (by omega), if_pos (by omega), if_pos (by omega), rdL3, if_pos (by omega), next i (by omega)]
theorem concat_l0 (ls : List (List Int)) (hl : ls.length ≤ 4611686018427387903) (r : List Int) (hr : Ev (fun k => slices_Concat_int_int.l1 k [] ls (ls.length : Int) 0) r) : ∀ (d i : Nat) (s : Int), i + d = ls.length → 0 ≤ s → s + (ls.drop i).flatten.length < 17592186044416 → Ev (fun k => slices_Concat_int_int.l0 k ls s ls (ls.length : Int) (i : Int)) r
  | 0, i, s, h, h0, hb => by
    refine ev_step hr fun k => ?_
    rw [slices_Concat_int_int.l0, if_neg (by omega)]
    unfold slices_Grow_int_int.f
    rw [if_pos ⟨h0, by simp; omega⟩, Option.bind_some]
  | d + 1, i, s, h, h0, hb => by
    rw [drop_row ls i (by omega), List.flatten_cons, List.length_append] at hb
    have ih := concat_l0 ls hl r hr d (i + 1) (s + (ls.getD i []).length) (by omega) (by omega) (by omega)
    exact ev_step ih fun k => by
      rw [slices_Concat_int_int.l0, if_pos (by omega), if_pos (by omega), if_pos (by omega), rdL3, w64 (by omega) (by omega), if_neg (by omega), next i (by omega)]
theorem concat_tells (ls : List (List Int)) (hl : ls.length ≤ 4611686018427387903) (hb : ls.flatten.length < 17592186044416) : Ev (fun k => slices_Concat_int_int.f k ls) ls.flatten := by
  refine concat_l0 ls hl _ ?_ ls.length 0 0 (by omega) (by omega) (by rw [List.drop_zero]; omega)
  have h := concat_l1 ls hl ls.length 0 [] (by omega) (by rw [List.drop_zero, List.length_nil]; omega)
  rw [List.drop_zero, List.nil_append] at h
  exact h

theorem together_tells (a b : List Int) (ha : a.length ≤ 1000000000) (hb : b.length ≤ 1000000000) : Ev (fun k => impl_together.f k a b) (setOf (a ++ b)) := by
  unfold impl_together.f
  have h := concat_tells [a, b] (by simp) (by simp; omega)
  simp only [List.flatten_cons, List.flatten_nil, List.append_nil] at h
  refine ev_bind h (ev_some fun _ => ?_)
  unfold slices_Sort_int_int.f slices_Compact_int_int.f
  rw [if_pos (by simp; omega)]
  rfl

theorem drop_r (l : List (List Int)) (i : Nat) (h : i < l.length) : l.drop i = l.getD i [] :: l.drop (i + 1) := by
  rw [List.drop_eq_getElem_cons h]
  simp [List.getD, List.getElem?_eq_getElem h]
theorem rdR (l : List (List Int)) (i : Nat) : rd_L3 l (i : Int) = l.getD i [] := by simp [rd_L3]
/-- The weight of a row of rows: each row and each number counts one. -/
def weigh (l : List (List Int)) : Nat := l.length + (l.map List.length).sum
theorem row_le {l : List (List Int)} {x : List Int} (h : x ∈ l) : x.length ≤ (l.map List.length).sum := by
  induction l with
  | nil => simp at h
  | cons a l ih =>
    rw [List.map_cons, List.sum_cons]
    rcases List.mem_cons.1 h with e | e
    · subst e
      omega
    · have := ih e
      omega
theorem getR_mem (l : List (List Int)) (i : Nat) (h : i < l.length) : l.getD i [] ∈ l := by
  have := List.getElem_mem h
  simpa [List.getD, List.getElem?_eq_getElem h] using this

def needAt (l : List S98) (i : Nat) (x : List (List Int)) : List (List Int) := if (rd_T98 l i).f0 = 1 then x else if (rd_T98 l (rd_T98 l i).f3).f1 = (rd_T98 l i).f1 then x else x.set (rd_T98 l i).f1.toNat (ins (rd_T98 l (rd_T98 l i).f3).f1 (rd_L3 x (rd_T98 l i).f1))
def needsGo (l : List S98) : Nat → Nat → List (List Int) → List (List Int)
  | 0, _, x => x
  | d + 1, i, x => needsGo l d (i + 1) (needAt l i x)
theorem row_up (x : List (List Int)) (j : Int) (h : ∀ r ∈ x, Up r) : Up (rd_L3 x j) := by
  unfold rd_L3
  rw [List.getD]
  cases hq : x[j.toNat]? with
  | none => exact List.Pairwise.nil
  | some v => exact h v (List.mem_of_getElem? hq)
theorem needAt_inv (l : List S98) (i : Nat) (x : List (List Int)) (hu : ∀ r ∈ x, Up r) (h : ∀ r ∈ x, r.length ≤ i) : (needAt l i x).length = x.length ∧ (∀ r ∈ needAt l i x, Up r) ∧ ∀ r ∈ needAt l i x, r.length ≤ i + 1 := by
  unfold needAt
  split
  · exact ⟨rfl, hu, fun r hr => by have := h r hr; omega⟩
  · split
    · exact ⟨rfl, hu, fun r hr => by have := h r hr; omega⟩
    · refine ⟨by simp, fun r hr => ?_, fun r hr => ?_⟩
      · rcases List.mem_or_eq_of_mem_set hr with e | e
        · exact hu r e
        · rw [e]
          exact up_ins _ (row_up x _ hu)
      · rcases List.mem_or_eq_of_mem_set hr with e | e
        · have := h r e
          omega
        · rw [e]
          have h1 := ins_len (rd_T98 l (rd_T98 l i).f3).f1 (rd_L3 x (rd_T98 l i).f1)
          have h2 := row_len x (rd_T98 l i).f1 i h
          omega
theorem needsGo_inv (l : List S98) : ∀ (d i : Nat) (x : List (List Int)), (∀ r ∈ x, Up r) → (∀ r ∈ x, r.length ≤ i) → (needsGo l d i x).length = x.length ∧ ∀ r ∈ needsGo l d i x, r.length ≤ i + d
  | 0, i, x, _, h => ⟨rfl, h⟩
  | d + 1, i, x, hu, h => by
    obtain ⟨a, u, b⟩ := needAt_inv l i x hu h
    obtain ⟨a2, b2⟩ := needsGo_inv l d (i + 1) (needAt l i x) u b
    refine ⟨a2.trans a, fun r hr => ?_⟩
    have := b2 r hr
    omega
theorem from_ok {s : S98} {i : Nat} (h : stepOk s i = true) (hi : i ≤ 10) (h1 : ¬ s.f0 = 1) : 0 ≤ s.f3 ∧ s.f3 < i := by
  unfold stepOk at h
  rw [if_neg h1, w64 (i := (i : Int) - 1) (by omega) (by omega)] at h
  by_cases h2 : s.f0 = 2
  · rw [if_pos h2] at h
    unfold inB at h
    simp only [Bool.and_eq_true, decide_eq_true_eq] at h
    omega
  · rw [if_neg h2] at h
    by_cases h3 : s.f0 = 3
    · rw [if_pos h3] at h
      unfold inB at h
      simp only [Bool.and_eq_true, decide_eq_true_eq] at h
      omega
    · rw [if_neg h3] at h
      simp at h
theorem needs_both (l : List S98) (hl : l.length ≤ 10) (ok : ∀ i, i < l.length → stepOk (rd_T98 l i) i = true) : ∀ (d i : Nat) (x : List (List Int)), i + d = l.length → x.length = 3 → (∀ r ∈ x, Up r) → (∀ r ∈ x, r.length ≤ i) → Ev (fun k => spec_l15Needs.l0 k l x l (l.length : Int) (i : Int)) (needsGo l d i x) ∧ Ev (fun k => impl_needs.l0 k l x l (l.length : Int) (i : Int)) (needsGo l d i x)
  | 0, i, x, h, _, _, _ => ⟨ev_stop fun k => by
    rw [spec_l15Needs.l0, if_neg (by omega)]
    rfl, ev_stop fun k => by
    rw [impl_needs.l0, if_neg (by omega)]
    rfl⟩
  | d + 1, i, x, h, h3, hu, hr => by
    obtain ⟨a, b⟩ := shard_ok (ok i (by omega))
    obtain ⟨c1, cu, c2⟩ := needAt_inv l i x hu hr
    obtain ⟨s1, s2⟩ := needs_both l hl ok d (i + 1) (needAt l i x) (by omega) (c1.trans h3) cu c2
    have hlen := row_len x (rd_T98 l i).f1 i hr
    have hup := row_up x (rd_T98 l i).f1 hu
    show Ev _ (needsGo l d (i + 1) (needAt l i x)) ∧ Ev _ (needsGo l d (i + 1) (needAt l i x))
    generalize hq : needsGo l d (i + 1) (needAt l i x) = q at s1 s2 ⊢
    by_cases h1 : (rd_T98 l i).f0 = 1
    · have e : needAt l i x = x := by unfold needAt; rw [if_pos h1]
      rw [e] at s1 s2
      exact ⟨ev_step s1 fun k => by rw [spec_l15Needs.l0, if_pos (by omega), if_pos (by omega), if_pos (by omega), if_pos h1, next i (by omega)], ev_step s2 fun k => by rw [impl_needs.l0, if_pos (by omega), if_pos (by omega), if_pos (by omega), if_pos h1, next i (by omega)]⟩
    · obtain ⟨f0, f1⟩ := from_ok (ok i (by omega)) (by omega) h1
      by_cases h2 : (rd_T98 l (rd_T98 l i).f3).f1 = (rd_T98 l i).f1
      · have e : needAt l i x = x := by unfold needAt; rw [if_neg h1, if_pos h2]
        rw [e] at s1 s2
        exact ⟨ev_step s1 fun k => by rw [spec_l15Needs.l0, if_pos (by omega), if_pos (by omega), if_pos (by omega), if_neg h1, if_pos f0, if_pos (by omega), if_pos h2, next i (by omega)], ev_step s2 fun k => by rw [impl_needs.l0, if_pos (by omega), if_pos (by omega), if_pos (by omega), if_neg h1, if_pos f0, if_pos (by omega), if_pos h2, next i (by omega)]⟩
      · have e : needAt l i x = x.set (rd_T98 l i).f1.toNat (ins (rd_T98 l (rd_T98 l i).f3).f1 (rd_L3 x (rd_T98 l i).f1)) := by unfold needAt; rw [if_neg h1, if_neg h2]
        rw [e] at s1 s2
        refine ⟨Ev.step (f := fun k => (spec_l1Put.f k (rd_L3 x (rd_T98 l i).f1) (rd_T98 l (rd_T98 l i).f3).f1).bind fun t => spec_l15Needs.l0 k l (x.set (rd_T98 l i).f1.toNat t) l (l.length : Int) ((i + 1 : Nat) : Int)) (fun k => ?_) (ev_bind (put_tells _ _ (by omega)) s1), Ev.step (f := fun k => (impl_together.f k (rd_L3 x (rd_T98 l i).f1) [(rd_T98 l (rd_T98 l i).f3).f1]).bind fun t => impl_needs.l0 k l (x.set (rd_T98 l i).f1.toNat t) l (l.length : Int) ((i + 1 : Nat) : Int)) (fun k => ?_) ?_⟩
        · rw [spec_l15Needs.l0, if_pos (by omega), if_pos (by omega), if_pos (by omega), if_neg h1, if_pos f0, if_pos (by omega), if_neg h2, if_pos a, if_pos (by omega), next i (by omega)]
        · rw [impl_needs.l0, if_pos (by omega), if_pos (by omega), if_pos (by omega), if_neg h1, if_pos f0, if_pos (by omega), if_neg h2, if_pos a, if_pos (by omega), next i (by omega)]
        · refine ev_bind (together_tells _ _ (by omega) (by simp)) ?_
          rw [setOf_ins hup]
          exact s2
def needsOf (l : List S98) : List (List Int) := needsGo l l.length 0 (List.replicate 3 [])
theorem needsOf_tells (l : List S98) (hl : l.length ≤ 10) (ok : ∀ i, i < l.length → stepOk (rd_T98 l i) i = true) : Ev (fun k => spec_l15Needs.f k l) (needsOf l) ∧ Ev (fun k => impl_needs.f k l) (needsOf l) ∧ weigh (needsOf l) ≤ 1048576 := by
  have hz : ∀ r ∈ List.replicate 3 ([] : List Int), r = [] := fun r hr => (List.mem_replicate.1 hr).2
  have hu : ∀ r ∈ List.replicate 3 ([] : List Int), Up r := fun r hr => by rw [hz r hr]; exact List.Pairwise.nil
  have h0 : ∀ r ∈ List.replicate 3 ([] : List Int), r.length ≤ 0 := fun r hr => by rw [hz r hr]; simp
  obtain ⟨s1, s2⟩ := needs_both l hl ok l.length 0 (List.replicate 3 []) (by omega) (by simp) hu h0
  obtain ⟨n1, n2⟩ := needsGo_inv l l.length 0 (List.replicate 3 []) hu h0
  refine ⟨?_, ?_, ?_⟩
  · unfold spec_l15Needs.f
    exact ev_ite_pos (by omega) s1
  · unfold impl_needs.f
    exact ev_ite_pos (by omega) s2
  · have h := rows_sum _ (0 + l.length) n2
    unfold needsOf weigh
    rw [n1, List.length_replicate] at h ⊢
    omega

def okAt (l : List Int) (a b : Int) (i : Nat) : Bool := (decide (a ≤ l.getD i 0) && decide (l.getD i 0 ≤ b)) && (decide (i = 0) || decide (l.getD (i - 1) 0 < l.getD i 0))
/-- Rising numbers from a to b. -/
def riseB (l : List Int) (a b : Int) : Bool := (List.range l.length).all (okAt l a b)
theorem rise_l (l : List Int) (a b : Int) (hl : l.length ≤ 4611686018427387904) : ∀ (d i : Nat), i + d = l.length → Ev (fun k => impl_isRising.l0 k l a b l (l.length : Int) (i : Int)) ((List.range' i d).all (okAt l a b))
  | 0, i, h => ev_stop fun k => by
    rw [impl_isRising.l0, if_neg (by omega)]
    rfl
  | d + 1, i, h => by
    have ih := rise_l l a b hl d (i + 1) (by omega)
    have h1 : wrap64 ((i : Int) + 1) = ((i + 1 : Nat) : Int) := by rw [w64 (by omega) (by omega)]; omega
    have key : ∀ k, impl_isRising.l0 (k + 1) l a b l (l.length : Int) (i : Int) = if okAt l a b i = true then impl_isRising.l0 k l a b l (l.length : Int) ((i + 1 : Nat) : Int) else some false := by
      intro k
      rw [impl_isRising.l0, if_pos (by omega), if_pos (by omega), if_pos (by omega), within_tells, Option.bind_some, h1, rdn]
      unfold okAt
      cases hw : (decide (a ≤ l.getD i 0) && decide (l.getD i 0 ≤ b)) with
      | false => simp
      | true =>
        rw [if_pos rfl]
        by_cases h0 : i = 0
        · rw [if_neg (by omega)]
          simp [h0]
        · have h2 : wrap64 ((i : Int) - 1) = ((i - 1 : Nat) : Int) := by rw [w64 (by omega) (by omega)]; omega
          rw [if_pos (by omega), h2, if_pos (by omega), if_pos (by omega), rdn]
          by_cases h3 : l.getD (i - 1) 0 ≥ l.getD i 0
          · rw [if_pos h3, if_neg]
            simp only [Bool.true_and, Bool.or_eq_true, decide_eq_true_eq]
            omega
          · rw [if_neg h3, if_pos]
            simp only [Bool.true_and, Bool.or_eq_true, decide_eq_true_eq]
            omega
    rw [List.range'_succ, List.all_cons]
    refine Ev.step key ?_
    cases okAt l a b i with
    | true => simpa using ih
    | false => exact ⟨0, fun k _ => by simp⟩
theorem rise_tells (l : List Int) (a b : Int) (hl : l.length ≤ 4611686018427387904) : Ev (fun k => impl_isRising.f k l a b) (riseB l a b) := by
  have h := rise_l l a b hl l.length 0 (by omega)
  unfold riseB
  rw [List.range_eq_range']
  exact h

abbrev Ris (l : List Int) : Prop := l.Pairwise (· < ·)
theorem ris_of_next : ∀ {l : List Int}, (∀ i, i + 1 < l.length → l.getD i 0 < l.getD (i + 1) 0) → Ris l
  | [], _ => List.Pairwise.nil
  | [a], _ => by simp
  | a :: b :: l, h => by
    have h1 : Ris (b :: l) := ris_of_next fun i hi => by
      have := h (i + 1) (by simpa using hi)
      simpa using this
    have h2 := List.pairwise_cons.1 h1
    have hab : a < b := by simpa using h 0 (by simp)
    refine List.pairwise_cons.2 ⟨fun y hy => ?_, h1⟩
    rcases List.mem_cons.1 hy with e | e
    · omega
    · have := h2.1 y e
      omega
theorem rise_ris {l : List Int} {a b : Int} (h : riseB l a b = true) : Ris l ∧ ∀ x ∈ l, a ≤ x ∧ x ≤ b := by
  unfold riseB okAt at h
  simp only [List.all_eq_true, List.mem_range, Bool.and_eq_true, Bool.or_eq_true, decide_eq_true_eq] at h
  refine ⟨ris_of_next fun i hi => ?_, fun x hx => ?_⟩
  · have := (h (i + 1) hi).2
    rcases this with e | e
    · omega
    · simpa using e
  · obtain ⟨i, hi, rfl⟩ := List.mem_iff_getElem.1 hx
    have := (h i hi).1
    simpa [List.getD, List.getElem?_eq_getElem hi] using this

theorem has_l (l : List Int) (x : Int) (hl : l.length ≤ 4611686018427387903) : ∀ (d i : Nat), i + d = l.length → Ev (fun k => spec_l1Has.l0 k x l (l.length : Int) (i : Int)) (decide (x ∈ l.drop i))
  | 0, i, h => ev_stop fun k => by
    rw [spec_l1Has.l0, if_neg (by omega), List.drop_of_length_le (by omega)]
    simp
  | d + 1, i, h => by
    have ih := has_l l x hl d (i + 1) (by omega)
    rw [drop_at l i (by omega)]
    by_cases hx : l.getD i 0 = x
    · exact ev_stop fun k => by
        rw [spec_l1Has.l0, if_pos (by omega), if_pos (by omega), if_pos (by omega), rdn, if_pos hx, hx]
        simp
    · refine ev_step (r := decide (x ∈ l.getD i 0 :: l.drop (i + 1))) (by
        have e : decide (x ∈ l.getD i 0 :: l.drop (i + 1)) = decide (x ∈ l.drop (i + 1)) := decide_eq_decide.2 (by
          rw [List.mem_cons]
          exact ⟨fun h => h.resolve_left (fun h => hx h.symm), .inr⟩)
        rw [e]
        exact ih) fun k => by
        rw [spec_l1Has.l0, if_pos (by omega), if_pos (by omega), if_pos (by omega), rdn, if_neg hx, next i (by omega)]
theorem has_tells (l : List Int) (x : Int) (hl : l.length ≤ 4611686018427387903) : Ev (fun k => spec_l1Has.f k l x) (decide (x ∈ l)) := by
  have h := has_l l x hl l.length 0 (by omega)
  rw [List.drop_zero] at h
  exact h

theorem sorted_le (l : List Int) : (l.mergeSort fun x y => decide (x ≤ y)).Pairwise (· ≤ ·) := by
  have h := List.pairwise_mergeSort (le := fun x y : Int => decide (x ≤ y)) (by intro a b c h1 h2; simp only [decide_eq_true_eq] at h1 h2 ⊢; omega) (by intro a b; simp only [Bool.or_eq_true, decide_eq_true_eq]; omega) l
  exact h.imp fun h => by simpa using h
theorem ris_rise {l : List Int} {a b : Int} (hu : Ris l) (hm : ∀ x ∈ l, a ≤ x ∧ x ≤ b) : riseB l a b = true := by
  unfold riseB okAt
  simp only [List.all_eq_true, List.mem_range, Bool.and_eq_true, Bool.or_eq_true, decide_eq_true_eq]
  intro i hi
  have e : l.getD i 0 = l[i] := by simp [List.getD, List.getElem?_eq_getElem hi]
  refine ⟨by rw [e]; exact hm _ (List.getElem_mem hi), ?_⟩
  by_cases h0 : i = 0
  · exact .inl h0
  · refine .inr ?_
    have hi' : i - 1 < l.length := by omega
    have e2 : l.getD (i - 1) 0 = l[i - 1] := by simp [List.getD, List.getElem?_eq_getElem hi']
    rw [e, e2]
    exact List.pairwise_iff_getElem.1 hu (i - 1) i hi' hi (by omega)
def onceM (m : Int) (l : List Int) : Bool := riseB (l.mergeSort fun x y => decide (x ≤ y)) 0 m
def onceP (m : Int) (l : List Int) : Prop := l.Nodup ∧ ∀ x ∈ l, 0 ≤ x ∧ x ≤ m
theorem onceM_iff (m : Int) (l : List Int) : onceM m l = true ↔ onceP m l := by
  have hp := List.mergeSort_perm l (fun x y => decide (x ≤ y))
  unfold onceM onceP
  constructor
  · intro h
    obtain ⟨u, m⟩ := rise_ris h
    refine ⟨hp.nodup_iff.1 (u.imp fun h => by omega), fun x hx => m x (hp.mem_iff.2 hx)⟩
  · rintro ⟨hn, hm⟩
    refine ris_rise ?_ fun x hx => hm x (hp.mem_iff.1 hx)
    have h1 := sorted_le l
    have h2 : (l.mergeSort fun x y => decide (x ≤ y)).Pairwise (· ≠ ·) := hp.nodup_iff.2 hn
    exact (h1.and h2).imp fun h => by omega
def onceAt (m : Int) (l : List Int) (i : Nat) : Bool := inB 0 m (l.getD i 0) && !decide (l.getD i 0 ∈ l.take i)
theorem onceAll_iff (m : Int) (l : List Int) : (List.range l.length).all (onceAt m l) = true ↔ onceP m l := by
  unfold onceP onceAt inB
  simp only [List.all_eq_true, List.mem_range, Bool.and_eq_true, decide_eq_true_eq, Bool.not_eq_true', decide_eq_false_iff_not]
  have eg : ∀ i (h : i < l.length), l.getD i 0 = l[i] := fun i h => by simp [List.getD, List.getElem?_eq_getElem h]
  constructor
  · intro h
    refine ⟨List.pairwise_iff_getElem.2 fun i j hi hj hij e => ?_, fun x hx => ?_⟩
    · refine (h j hj).2 ?_
      rw [eg j hj, ← e]
      exact List.mem_take_iff_getElem.2 ⟨i, by omega, rfl⟩
    · obtain ⟨i, hi, rfl⟩ := List.mem_iff_getElem.1 hx
      have := (h i hi).1
      rwa [eg i hi] at this
  · rintro ⟨hn, hm⟩ i hi
    rw [eg i hi]
    refine ⟨hm _ (List.getElem_mem hi), fun hx => ?_⟩
    obtain ⟨j, hj, e⟩ := List.mem_take_iff_getElem.1 hx
    exact List.pairwise_iff_getElem.1 hn j i (by omega) hi (by omega) e
theorem once_same (m : Int) (l : List Int) : (List.range l.length).all (onceAt m l) = onceM m l := by
  rw [Bool.eq_iff_iff, onceAll_iff, onceM_iff]
theorem sonce_tells (c m : Int) (ec : wrap64 (c - 1) = m) (l : List Int) (hl : l.length ≤ 1048576) : Ev (fun k => spec_l14Once.f k c l) (onceM m l) := by
  rw [← once_same]
  have round : ∀ (i : Nat), i < l.length → ∀ q, Ev (fun k => if onceAt m l i = true then spec_l14Once.l0 k c l l (l.length : Int) ((i + 1 : Nat) : Int) else some false) q → Ev (fun k => spec_l14Once.l0 k c l l (l.length : Int) (i : Int)) q := by
    intro i hi q hq
    refine Ev.step (f := fun k => if inB 0 m (l.getD i 0) = true then ((spec_l1Has.f k (l.take i) (l.getD i 0)).bind fun t => if t = true then some false else spec_l14Once.l0 k c l l (l.length : Int) ((i + 1 : Nat) : Int)) else some false) (fun k => ?_) ?_
    · rw [spec_l14Once.l0, if_pos (by omega), if_pos (by omega), if_pos (by omega), sin_tells, Option.bind_some, ec, rdn, next i (by omega), Int.toNat_natCast, if_pos (show (i : Int) ≤ (l.length : Int) by omega)]
      rfl
    · unfold onceAt at hq
      have hh := has_tells (l.take i) (l.getD i 0) (by rw [List.length_take]; omega)
      generalize decide (l.getD i 0 ∈ l.take i) = v at hq hh
      generalize inB 0 m (l.getD i 0) = u at hq ⊢
      cases u with
      | false => exact ev_ite_neg (by simp) (by simpa using hq)
      | true =>
        refine ev_ite_pos rfl (ev_bind hh ?_)
        cases v with
        | true => exact ev_ite_pos rfl (by simpa using hq)
        | false => exact ev_ite_neg (by simp) (by simpa using hq)
  have hh := all_from (F := fun k i => spec_l14Once.l0 k c l l (l.length : Int) (i : Int)) (p := onceAt m l) (r := true) (n := l.length) (ev_stop fun k => by rw [spec_l14Once.l0, if_neg (by omega)]) (fun i hi hp q hq => round i hi q (ev_ite_pos hp hq)) (fun i hi hp => round i hi _ (ev_ite_neg (by rw [hp]; decide) (ev_some fun _ => rfl)))
  rw [Bool.and_true] at hh
  exact hh

theorem sub_tells (a b : List Int) (ha : a.length ≤ 1048576) (hb : b.length ≤ 1048576) : Ev (fun k => spec_l5Sub.f k a b) (a.all fun n => b.contains n) := by
  have round : ∀ (i : Nat), i < a.length → ∀ q, Ev (fun k => if b.contains (a.getD i 0) = true then spec_l5Sub.l0 k b a (a.length : Int) ((i + 1 : Nat) : Int) else some false) q → Ev (fun k => spec_l5Sub.l0 k b a (a.length : Int) (i : Int)) q := by
    intro i hi q hq
    refine Ev.step (f := fun k => (spec_l1Has.f k b (a.getD i 0)).bind fun t => if t = true then spec_l5Sub.l0 k b a (a.length : Int) ((i + 1 : Nat) : Int) else some false) (fun k => ?_) (ev_bind (has_tells b _ (by omega)) ?_)
    · rw [spec_l5Sub.l0, if_pos (by omega), if_pos (by omega), if_pos (by omega), rdn, next i (by omega)]
    · have e : decide (a.getD i 0 ∈ b) = b.contains (a.getD i 0) := by simp
      rw [e]
      exact hq
  have h := all_from (F := fun k i => spec_l5Sub.l0 k b a (a.length : Int) (i : Int)) (p := fun i => b.contains (a.getD i 0)) (r := true) (n := a.length) (ev_stop fun k => by rw [spec_l5Sub.l0, if_neg (by omega)]) (fun i hi hp q hq => round i hi q (ev_ite_pos hp hq)) (fun i hi hp => round i hi _ (ev_ite_neg (by rw [hp]; decide) (ev_some fun _ => rfl)))
  have e : (a.all fun n => b.contains n) = ((List.range a.length).all (fun i => b.contains (a.getD i 0)) && true) := by
    rw [Bool.and_true, Bool.eq_iff_iff]
    simp only [List.all_eq_true, List.mem_range]
    constructor
    · intro h i hi
      exact h _ (by have := List.getElem_mem hi; simpa [List.getD, List.getElem?_eq_getElem hi] using this)
    · intro h x hx
      obtain ⟨i, hi, rfl⟩ := List.mem_iff_getElem.1 hx
      have := h i hi
      simpa [List.getD, List.getElem?_eq_getElem hi] using this
  rw [e]
  exact h

theorem szstep (l : List S100) (hl : l.length ≤ maxLen) : laws_szStepS.f l 1048576 = some (if 1048576 < (l.length : Int) then -1 else 1048576 - (l.length : Int)) := by
  have hm : maxLen ≤ 9223372036854775807 := by decide
  unfold laws_szStepS.f
  rw [w64 (by omega) (by omega)]
  split <;> split <;> first | rfl | omega

theorem toints_l (l : List Int) (hl : l.length ≤ 4611686018427387904) : ∀ (d i : Nat) (m : List Int), m.length = l.length → i + d = l.length → m.take i = l.take i → Ev (fun k => laws_toIntS.l0 k l m (i : Int)) l
  | 0, i, m, hm, h, ht => ev_stop fun k => by
    rw [laws_toIntS.l0, if_neg (by omega)]
    rw [List.take_of_length_le (by omega), List.take_of_length_le (by omega)] at ht
    rw [ht]
  | d + 1, i, m, hm, h, ht => by
    have h1 : wrap64 ((i : Int) + 1) = ((i + 1 : Nat) : Int) := by rw [w64 (by omega) (by omega)]; omega
    refine ev_step (toints_l l hl d (i + 1) (m.set i (l.getD i 0)) (by simpa using hm) (by omega) ?_) fun k => by
      rw [laws_toIntS.l0, if_pos (by omega), if_pos (by omega), if_pos (by omega), h1, rdn, Int.toNat_natCast]
    rw [List.take_succ_eq_append_getElem (by simp; omega), List.take_succ_eq_append_getElem (by omega), List.take_set_of_le (Nat.le_refl i), ht]
    simp [List.getD, List.getElem?_eq_getElem (show i < l.length by omega)]
theorem toints_tells (l : List Int) (hl : l.length ≤ 35184372088832) : Ev (fun k => laws_toIntS.f k l) l := by
  refine Ev.congr (g := fun k => laws_toIntS.f k l) (fun k => ?_) (toints_l l (by omega) l.length 0 (List.replicate l.length 0) (by simp) (by omega) (by simp))
  unfold laws_toIntS.f
  rw [if_pos (by omega), if_pos (by omega), Int.toNat_natCast]
  rfl

/-- The rising numbers from m on. -/
def upFrom (m : Int) : Nat → List Int
  | 0 => []
  | n + 1 => m :: upFrom (m + 1) n
theorem upFrom_len (m : Int) : ∀ n, (upFrom m n).length = n
  | 0 => rfl
  | n + 1 => by rw [upFrom, List.length_cons, upFrom_len (m + 1) n]
theorem take_set_succ (l : List Int) (i : Nat) (m : Int) (h : i < l.length) : (l.set i m).take (i + 1) = l.take i ++ [m] := by
  rw [List.take_succ_eq_append_getElem (by simpa using h), List.take_set_of_le (Nat.le_refl i)]
  simp
theorem markInt_l : ∀ (d i : Nat) (l : List Int) (m : Int), i + d = l.length → 0 ≤ m → m + d ≤ 4611686018427387903 → l.length ≤ 4611686018427387903 → Ev (fun k => laws_markIntS.l0 k l m (i : Int)) (m + d, l.take i ++ upFrom m d)
  | 0, i, l, m, h, _, _, _ => ev_stop fun k => by
    rw [laws_markIntS.l0, if_neg (by omega), List.take_of_length_le (by omega)]
    simp [upFrom]
  | d + 1, i, l, m, h, hm, hb, hl => by
    have ih := markInt_l d (i + 1) (l.set i m) (m + 1) (by simpa using by omega) (by omega) (by omega) (by simpa using hl)
    rw [take_set_succ l i m (by omega), List.append_assoc] at ih
    have e : m + 1 + (d : Int) = m + ((d + 1 : Nat) : Int) := by omega
    rw [e] at ih
    exact ev_step ih fun k => by rw [laws_markIntS.l0, if_pos (by omega), if_pos (by omega), w64 (by omega) (by omega), next i (by omega), Int.toNat_natCast]
theorem markInt_tells (l : List Int) (m : Int) (hm : 0 ≤ m) (hb : m + l.length ≤ 4611686018427387903) : Ev (fun k => laws_markIntS.f k l m) (m + l.length, upFrom m l.length) := by
  have h := markInt_l l.length 0 l m (by omega) hm hb (by omega)
  rw [List.take_zero, List.nil_append] at h
  exact h

theorem heldInt_l (l : List Int) (hl : l.length ≤ 4611686018427387903) : ∀ (d i : Nat) (m : Int), i + d = l.length → l.drop i = upFrom m d → 0 ≤ m → m + d ≤ 4611686018427387903 → Ev (fun k => laws_heldIntS.l0 k l m (i : Int)) (m + d)
  | 0, i, m, h, _, _, _ => ev_stop fun k => by
    rw [laws_heldIntS.l0, if_neg (by omega)]
    simp
  | d + 1, i, m, h, he, hm, hb => by
    rw [drop_at l i (by omega), upFrom] at he
    injection he with e1 e2
    have ih := heldInt_l l hl d (i + 1) (m + 1) (by omega) e2 (by omega) (by omega)
    have e : m + 1 + (d : Int) = m + ((d + 1 : Nat) : Int) := by omega
    rw [e] at ih
    exact ev_step ih fun k => by rw [laws_heldIntS.l0, if_pos (by omega), if_pos (by omega), rdn, if_pos e1, w64 (by omega) (by omega), next i (by omega)]
theorem heldInt_tells (m : Int) (n : Nat) (hm : 0 ≤ m) (hb : m + n ≤ 4611686018427387903) : Ev (fun k => laws_heldIntS.f k (upFrom m n) m) (m + n) := by
  have h := heldInt_l (upFrom m n) (by rw [upFrom_len]; omega) n 0 m (by rw [upFrom_len]; omega) (by simp) hm hb
  exact h

theorem markStep_l : ∀ (d i : Nat) (l : List S98) (m : Int), i + d = l.length → l.length ≤ 4611686018427387903 → 0 ≤ m → m + 5 * d ≤ 4611686018427387903 → ∃ r, Ev (fun k => laws_markStepS.l0 k l m (i : Int)) (m + 5 * d, r)
  | 0, i, l, m, h, _, _, _ => ⟨l, ev_stop fun k => by
    rw [laws_markStepS.l0, if_neg (by omega)]
    simp⟩
  | d + 1, i, l, m, h, hl, hm, hb => by
    have hs : ∃ l' : List S98, l'.length = l.length ∧ ∀ k, laws_markStepS.l0 (k + 1) l m (i : Int) = laws_markStepS.l0 k l' (m + 5) ((i + 1 : Nat) : Int) := by
      apply Exists.intro
      apply And.intro
      rotate_left
      · intro k
        rw [laws_markStepS.l0, if_pos (by omega), if_pos (by omega)]
        simp only [Option.bind_some]
        rw [w64 (i := m + 1) (by omega) (by omega), w64 (i := m + 1 + 1) (by omega) (by omega), w64 (i := m + 1 + 1 + 1) (by omega) (by omega), w64 (i := m + 1 + 1 + 1 + 1) (by omega) (by omega), w64 (i := m + 1 + 1 + 1 + 1 + 1) (by omega) (by omega), next i (by omega), show m + 1 + 1 + 1 + 1 + 1 = m + 5 by omega]
      · simp
    obtain ⟨l', hl', hk⟩ := hs
    obtain ⟨r, hr⟩ := markStep_l d (i + 1) l' (m + 5) (by omega) (by omega) (by omega) (by omega)
    have e : m + 5 + 5 * (d : Int) = m + 5 * ((d + 1 : Nat) : Int) := by omega
    rw [e] at hr
    exact ⟨r, ev_step hr hk⟩
theorem markStep_tells (l : List S98) (m : Int) (hm : 0 ≤ m) (hb : m ≤ 1000000000) (hl : l.length ≤ 1048576) : ∃ r, Ev (fun k => laws_markStepS.f k l m) (m + 5 * l.length, r) := markStep_l l.length 0 l m (by omega) (by omega) (by omega) (by omega)

theorem eqints_l (l : List Int) (hl : l.length ≤ 4611686018427387904) : ∀ (d i : Nat), i + d = l.length → Ev (fun k => laws_eqIntS.l0 k l l (i : Int)) true
  | 0, i, h => ev_stop fun k => by
    rw [laws_eqIntS.l0, if_neg (by omega)]
  | d + 1, i, h => by
    have h1 : wrap64 ((i : Int) + 1) = ((i + 1 : Nat) : Int) := by rw [w64 (by omega) (by omega)]; omega
    refine ev_step (eqints_l l hl d (i + 1) (by omega)) fun k => by
      rw [laws_eqIntS.l0, if_pos (by omega), if_pos (by omega), if_pos (by omega), if_pos rfl, h1]
theorem eqints_tells (l : List Int) (hl : l.length ≤ 4611686018427387904) : Ev (fun k => laws_eqIntS.f k l l) true := by
  refine Ev.congr (g := fun k => laws_eqIntS.f k l l) (fun k => ?_) (eqints_l l hl l.length 0 (by omega))
  unfold laws_eqIntS.f
  rw [if_pos rfl]
  rfl

def idxs (l : List S98) (p : Int) (i d : Nat) : List Nat := (List.range' i d).filter fun j => decide ((rd_T98 l j).f1 = p)
def stepAt (l : List S98) (s : List Int × List Int) (j : Nat) : List Int × List Int := ((stepGo s.1 s.2 (rd_T98 l j)).2, s.2.set j (stepGo s.1 s.2 (rd_T98 l j)).1)
def runIx (l : List S98) (js : List Nat) (s : List Int × List Int) : List Int × List Int := js.foldl (stepAt l) s
theorem runIx_len (l : List S98) : ∀ (js : List Nat) (s : List Int × List Int), (runIx l js s).1.length = s.1.length ∧ (runIx l js s).2.length = s.2.length
  | [], s => ⟨rfl, rfl⟩
  | j :: js, s => by
    have h := runIx_len l js (stepAt l s j)
    unfold stepAt at h
    simp only [stepGo_len, List.length_set] at h
    exact h
theorem idxs_len (l : List S98) (p : Int) (i d : Nat) : (idxs l p i d).length ≤ d := by
  have h := List.length_filter_le (fun j : Nat => decide ((rd_T98 l j).f1 = p)) (List.range' i d)
  rw [List.length_range'] at h
  exact h
theorem idxs_lt (l : List S98) (p : Int) (i d : Nat) : ∀ j ∈ idxs l p i d, j < i + d := by
  intro j hj
  have h := List.mem_range'_1.1 (List.mem_filter.1 hj).1
  omega
theorem idxs_cons (l : List S98) (p : Int) (i d : Nat) : idxs l p i (d + 1) = if (rd_T98 l i).f1 = p then i :: idxs l p (i + 1) d else idxs l p (i + 1) d := by
  unfold idxs
  rw [List.range'_succ, List.filter_cons]
  by_cases h : (rd_T98 l i).f1 = p
  · rw [if_pos h, if_pos (decide_eq_true h)]
  · rw [if_neg h, if_neg (by simpa using h)]
theorem idxs_more (l : List S98) (p : Int) (d : Nat) : idxs l p 0 (d + 1) = idxs l p 0 d ++ if (rd_T98 l d).f1 = p then [d] else [] := by
  unfold idxs
  rw [← List.range_eq_range', ← List.range_eq_range', List.range_succ, List.filter_append, List.filter_cons]
  by_cases h : (rd_T98 l d).f1 = p
  · rw [if_pos h, if_pos (decide_eq_true h)]
    rfl
  · rw [if_neg h, if_neg (by simpa using h)]
    rfl
/-- The reference's inner loop: a piece's steps, in order. -/
theorem l2_tells (l : List S98) (hl : l.length ≤ 10) (ok : ∀ i, i < l.length → stepOk (rd_T98 l i) i = true) (p : Int) (ord : List Int) (n j : Int) (q : List Int × List Int × Bool) : ∀ (d i : Nat) (s : List Int × List Int), i + d = l.length → s.1.length = 12 → s.2.length = l.length → Ev (fun k => spec_RunPieces.l1 k l (runIx l (idxs l p i d) s).1 (runIx l (idxs l p i d) s).2 ord n (wrap64 (j + 1))) q → Ev (fun k => spec_RunPieces.l2 k l s.1 s.2 p ord n j l (l.length : Int) (i : Int)) q
  | 0, i, s, h, _, _, hq => ev_step hq fun k => by
    rw [spec_RunPieces.l2, if_neg (by omega)]
    rfl
  | d + 1, i, s, h, hs, ht, hq => by
    obtain ⟨a, b, c⟩ := stepOk_facts (by omega) (ok i (by omega))
    rw [idxs_cons] at hq
    by_cases hp : (rd_T98 l i).f1 = p
    · rw [if_pos hp] at hq
      have ih := l2_tells l hl ok p ord n j q d (i + 1) (stepAt l s i) (by omega) (by unfold stepAt; simp only [stepGo_len]; exact hs) (by unfold stepAt; simp only [List.length_set]; exact ht) hq
      exact ev_step ih fun k => by
        rw [spec_RunPieces.l2, if_pos (by omega), if_pos (by omega), if_pos (by omega), if_pos hp, step_s s.1 s.2 l i (by omega) ht hs a b (c.imp_right fun ⟨c1, c2, c3⟩ => ⟨c1, c2, by omega⟩), Option.bind_some, next i (by omega)]
        rfl
    · rw [if_neg hp] at hq
      have ih := l2_tells l hl ok p ord n j q d (i + 1) s (by omega) hs ht hq
      exact ev_step ih fun k => by
        rw [spec_RunPieces.l2, if_pos (by omega), if_pos (by omega), if_pos (by omega), if_neg hp, next i (by omega)]
def allIx (l : List S98) (ord : List Int) : List Nat := ord.flatMap fun p => idxs l p 0 l.length
theorem l1_tells (l : List S98) (hl : l.length ≤ 10) (ok : ∀ i, i < l.length → stepOk (rd_T98 l i) i = true) (ord : List Int) (ho : ord.length ≤ 1048576) : ∀ (d i : Nat) (s : List Int × List Int), i + d = ord.length → s.1.length = 12 → s.2.length = l.length → Ev (fun k => spec_RunPieces.l1 k l s.1 s.2 ord (ord.length : Int) (i : Int)) ((runIx l (allIx l (ord.drop i)) s).1, (runIx l (allIx l (ord.drop i)) s).2, true)
  | 0, i, s, h, _, _ => ev_stop fun k => by
    rw [spec_RunPieces.l1, if_neg (by omega), List.drop_of_length_le (by omega)]
    rfl
  | d + 1, i, s, h, hs, ht => by
    obtain ⟨n1, n2⟩ := runIx_len l (idxs l (ord.getD i 0) 0 l.length) s
    have ih := l1_tells l hl ok ord ho d (i + 1) (runIx l (idxs l (ord.getD i 0) 0 l.length) s) (by omega) (n1.trans hs) (n2.trans ht)
    have e : runIx l (allIx l (ord.drop i)) s = runIx l (allIx l (ord.drop (i + 1))) (runIx l (idxs l (ord.getD i 0) 0 l.length) s) := by
      rw [drop_at ord i (by omega)]
      unfold allIx runIx
      rw [List.flatMap_cons, List.foldl_append]
    rw [← e] at ih
    have h2 := l2_tells l hl ok (ord.getD i 0) ord (ord.length : Int) (i : Int) _ l.length 0 s (by omega) hs ht (by rw [next i (by omega)]; exact ih)
    exact ev_step h2 fun k => by
      rw [spec_RunPieces.l1, if_pos (by omega), if_pos (by omega), if_pos (by omega), rdn]
      rfl
def chkAt (nd : List (List Int)) (ord : List Int) (i : Nat) : Bool := (rd_L3 nd (ord.getD i 0)).all fun n => (ord.take i).contains n
def runEnd (l : List S98) (s : List Int) (js : List Nat) : List Int × List Int × Bool := ((runIx l js (s, List.replicate l.length 0)).1, (runIx l js (s, List.replicate l.length 0)).2, true)
theorem getD_mem {P : Int → Prop} {ord : List Int} (h : ∀ x ∈ ord, P x) {i : Nat} (hi : i < ord.length) : P (ord.getD i 0) := by
  rw [List.getD_eq_getElem?_getD, List.getElem?_eq_getElem hi]
  exact h _ (List.getElem_mem hi)
theorem l0_s (l : List S98) (hl : l.length ≤ 10) (ok : ∀ i, i < l.length → stepOk (rd_T98 l i) i = true) (s ord : List Int) (nd : List (List Int)) (hs : s.length = 12) (h3 : ord.length = 3) (hm : ∀ x ∈ ord, 0 ≤ x ∧ x ≤ 2) (hn : nd.length = 3) (hr : ∀ r ∈ nd, r.length ≤ 10) : ∀ (d i : Nat), i + d = ord.length → Ev (fun k => spec_RunPieces.l0 k s l ord nd ord (ord.length : Int) (i : Int)) (if (List.range' i d).all (chkAt nd ord) = true then runEnd l s (allIx l ord) else ([], [], false))
  | 0, i, h => by
    have h1 := l1_tells l hl ok ord (by omega) ord.length 0 (s, List.replicate l.length 0) (by omega) hs (by simp)
    rw [List.drop_zero] at h1
    exact ev_step h1 fun k => by
      rw [spec_RunPieces.l0, if_neg (by omega), Option.bind_some, if_pos (by simp; omega), if_pos (by omega), if_pos (by omega)]
      simp
  | d + 1, i, h => by
    have ih := l0_s l hl ok s ord nd hs h3 hm hn hr d (i + 1) (by omega)
    obtain ⟨m1, m2⟩ := getD_mem hm (i := i) (by omega)
    have hb := sub_tells (rd_L3 nd (ord.getD i 0)) (ord.take i) (by have := row_len nd (ord.getD i 0) 10 hr; omega) (by rw [List.length_take]; omega)
    refine Ev.step (f := fun k => (spec_l5Sub.f k (rd_L3 nd (ord.getD i 0)) (ord.take i)).bind fun t => if t = true then spec_RunPieces.l0 k s l ord nd ord (ord.length : Int) ((i + 1 : Nat) : Int) else some ([], [], false)) (fun k => ?_) (ev_bind hb ?_)
    · rw [spec_RunPieces.l0, if_pos (by omega), if_pos (by omega), if_pos (by omega), rdn, if_pos m1, if_pos (by omega), if_pos (by omega), next i (by omega), Int.toNat_natCast]
    · rw [List.range'_succ, List.all_cons]
      change Ev (fun k => if chkAt nd ord i = true then _ else _) _
      cases chkAt nd ord i with
      | true => exact ev_ite_pos rfl (by rw [Bool.true_and]; exact ih)
      | false => exact ev_ite_neg (by simp) (ev_some fun _ => by simp)
theorem runall_l (l : List S98) (hl : l.length ≤ 10) (ok : ∀ i, i < l.length → stepOk (rd_T98 l i) i = true) (js : List Nat) (hj : ∀ j ∈ js, j < l.length) (hb : js.length ≤ 1000) : ∀ (d i : Nat) (s : List Int × List Int), i + d = js.length → s.1.length = 12 → s.2.length = l.length → Ev (fun k => impl_runAll.l0 k l s.1 s.2 (js.map Int.ofNat) ((js.map Int.ofNat).length : Int) (i : Int)) (runIx l (js.drop i) s)
  | 0, i, s, h, _, _ => ev_stop fun k => by
    rw [impl_runAll.l0, if_neg (by simp; omega), List.drop_of_length_le (by omega)]
    rfl
  | d + 1, i, s, h, hs, ht => by
    have hi : i < js.length := by omega
    have hx := hj js[i] (List.getElem_mem hi)
    rw [List.drop_eq_getElem_cons hi]
    have e : rd (js.map Int.ofNat) (i : Int) = (js[i] : Int) := by
      rw [rdn, List.getD_eq_getElem?_getD, List.getElem?_map, List.getElem?_eq_getElem hi]
      rfl
    generalize js[i] = x at hx e
    obtain ⟨a, b, c⟩ := stepOk_facts (by omega) (ok x hx)
    have ih := runall_l l hl ok js hj hb d (i + 1) (stepAt l s x) (by omega) (by unfold stepAt; simp only [stepGo_len]; exact hs) (by unfold stepAt; simp only [List.length_set]; exact ht)
    exact ev_step ih fun k => by
      rw [impl_runAll.l0, if_pos (by simp; omega), if_pos (by omega), if_pos (by simp; omega), e, if_pos (by omega), if_pos (by omega), step_i s.1 s.2 _ hs a b (c.imp_right fun ⟨c1, c2, c3⟩ => ⟨c1, c2, by omega⟩), Option.bind_some, if_pos (by omega), next i (by omega), Int.toNat_natCast]
      rfl
theorem runall_tells (l : List S98) (hl : l.length ≤ 10) (ok : ∀ i, i < l.length → stepOk (rd_T98 l i) i = true) (s : List Int) (hs : s.length = 12) (js : List Nat) (hj : ∀ j ∈ js, j < l.length) (hb : js.length ≤ 1000) : Ev (fun k => impl_runAll.f k s l (js.map Int.ofNat)) (runIx l js (s, List.replicate l.length 0)) := by
  have h := runall_l l hl ok js hj hb js.length 0 (s, List.replicate l.length 0) (by omega) hs (by simp)
  rw [List.drop_zero] at h
  refine Ev.congr (fun k => ?_) h
  unfold impl_runAll.f slices_Clone_int_int.f
  rw [if_pos (by omega), Option.bind_some, if_pos (by omega), if_pos (by omega), Int.toNat_natCast]
  rfl
def rowsAt (l : List S98) (d : Nat) : List (List Int) := [(idxs l 0 0 d).map Int.ofNat, (idxs l 1 0 d).map Int.ofNat, (idxs l 2 0 d).map Int.ofNat]
theorem rowsAt_row (l : List S98) (d : Nat) (p : Int) (h0 : 0 ≤ p) (h1 : p ≤ 2) : rd_L3 (rowsAt l d) p = (idxs l p 0 d).map Int.ofNat := by
  have h : p = 0 ∨ p = 1 ∨ p = 2 := by omega
  rcases h with rfl | rfl | rfl <;> rfl
theorem rowsAt_next (l : List S98) (d : Nat) (h0 : 0 ≤ (rd_T98 l d).f1) (h1 : (rd_T98 l d).f1 ≤ 2) : (rowsAt l d).set (rd_T98 l d).f1.toNat (rd_L3 (rowsAt l d) (rd_T98 l d).f1 ++ [(d : Int)]) = rowsAt l (d + 1) := by
  rw [rowsAt_row l d _ h0 h1]
  unfold rowsAt
  rw [idxs_more, idxs_more, idxs_more]
  generalize (rd_T98 l d).f1 = p at h0 h1
  have h : p = 0 ∨ p = 1 ∨ p = 2 := by omega
  rcases h with rfl | rfl | rfl <;> simp
theorem pieces_l (l : List S98) (hl : l.length ≤ 10) (ok : ∀ i, i < l.length → stepOk (rd_T98 l i) i = true) : ∀ (d i : Nat), i + d = l.length → Ev (fun k => impl_pieces.l0 k (rowsAt l i) l (l.length : Int) (i : Int)) (rowsAt l l.length)
  | 0, i, h => ev_stop fun k => by
    obtain rfl : i = l.length := by omega
    rw [impl_pieces.l0, if_neg (by omega)]
  | d + 1, i, h => by
    obtain ⟨a, b⟩ := shard_ok (ok i (by omega))
    have ih := pieces_l l hl ok d (i + 1) (by omega)
    have hlen := idxs_len l (rd_T98 l i).f1 0 i
    have e3 : (rowsAt l i).length = 3 := rfl
    rw [← rowsAt_next l i a (by omega)] at ih
    exact ev_step ih fun k => by
      rw [impl_pieces.l0, if_pos (by omega), if_pos (by omega), if_pos (by omega), if_pos a, if_pos (by omega), if_pos (by rw [rowsAt_row l i _ a (by omega), List.length_map]; omega), next i (by omega)]
theorem pieces_tells (l : List S98) (hl : l.length ≤ 10) (ok : ∀ i, i < l.length → stepOk (rd_T98 l i) i = true) : Ev (fun k => impl_pieces.f k l) (rowsAt l l.length) := by
  have h := pieces_l l hl ok l.length 0 (by omega)
  unfold impl_pieces.f
  exact ev_ite_pos (by omega) h
theorem allIx_facts (l : List S98) (hl : l.length ≤ 10) : ∀ (ord : List Int), (∀ j ∈ allIx l ord, j < l.length) ∧ (allIx l ord).length ≤ 10 * ord.length
  | [] => ⟨by simp [allIx], by simp [allIx]⟩
  | p :: ord => by
    obtain ⟨a, b⟩ := allIx_facts l hl ord
    have e : allIx l (p :: ord) = idxs l p 0 l.length ++ allIx l ord := by
      unfold allIx
      rw [List.flatMap_cons]
    rw [e]
    refine ⟨fun j hj => ?_, ?_⟩
    · rcases List.mem_append.1 hj with h | h
      · have := idxs_lt l p 0 l.length j h
        omega
      · exact a j h
    · have := idxs_len l p 0 l.length
      rw [List.length_append, List.length_cons]
      omega
theorem l0_i (l : List S98) (hl : l.length ≤ 10) (ok : ∀ i, i < l.length → stepOk (rd_T98 l i) i = true) (s ord : List Int) (nd : List (List Int)) (hs : s.length = 12) (h3 : ord.length = 3) (hm : ∀ x ∈ ord, 0 ≤ x ∧ x ≤ 2) (hn : nd.length = 3) (hr : ∀ r ∈ nd, r.length ≤ 10) : ∀ (d i : Nat) (acc : List Nat), i + d = ord.length → acc ++ allIx l (ord.drop i) = allIx l ord → Ev (fun k => impl_RunPieces.l0 k s l ord nd (rowsAt l l.length) (acc.map Int.ofNat) ord (ord.length : Int) (i : Int)) (if (List.range' i d).all (chkAt nd ord) = true then runEnd l s (allIx l ord) else ([], [], false))
  | 0, i, acc, h, ha => by
    obtain ⟨f1, f2⟩ := allIx_facts l hl ord
    rw [List.drop_of_length_le (by omega)] at ha
    obtain rfl : acc = allIx l ord := by simpa [allIx] using ha
    have h1 := runall_tells l hl ok s hs _ f1 (by omega)
    refine Ev.step (f := fun k => (impl_runAll.f k s l ((allIx l ord).map Int.ofNat)).bind fun bt => some (bt.1, bt.2, true)) (fun k => by rw [impl_RunPieces.l0, if_neg (by omega)]) (ev_bind h1 (ev_some fun _ => rfl))
  | d + 1, i, acc, h, ha => by
    obtain ⟨m1, m2⟩ := getD_mem hm (i := i) (by omega)
    obtain ⟨f1, f2⟩ := allIx_facts l hl ord
    have hx : allIx l (ord.drop i) = idxs l (ord.getD i 0) 0 l.length ++ allIx l (ord.drop (i + 1)) := by
      rw [drop_at ord i (by omega)]
      unfold allIx
      rw [List.flatMap_cons]
    have hacc : acc.length ≤ (allIx l ord).length := by rw [← ha, List.length_append]; omega
    rw [hx, ← List.append_assoc] at ha
    have ih := l0_i l hl ok s ord nd hs h3 hm hn hr d (i + 1) _ (by omega) ha
    have hlen := idxs_len l (ord.getD i 0) 0 l.length
    have e3 : (rowsAt l l.length).length = 3 := rfl
    refine Ev.step (f := fun k => if chkAt nd ord i = true then impl_RunPieces.l0 k s l ord nd (rowsAt l l.length) ((acc ++ idxs l (ord.getD i 0) 0 l.length).map Int.ofNat) ord (ord.length : Int) ((i + 1 : Nat) : Int) else some ([], [], false)) (fun k => ?_) ?_
    · rw [impl_RunPieces.l0, if_pos (by omega), if_pos (by omega), if_pos (by omega), rdn, if_pos (by omega), if_pos m1, if_pos (by omega), rowsAt_row l _ _ m1 m2]
      unfold impl_hasAll.f
      rw [Option.bind_some, Int.toNat_natCast]
      change (if chkAt nd ord i = true then _ else _) = _
      cases chkAt nd ord i with
      | false => rfl
      | true => rw [if_pos rfl, if_pos rfl, if_pos (show ord.getD i 0 < ((rowsAt l l.length).length : Int) by omega), if_pos (by rw [List.length_map, List.length_map]; omega), next i (by omega), List.map_append]
    · rw [List.range'_succ, List.all_cons]
      cases chkAt nd ord i with
      | true => exact ev_ite_pos rfl (by rw [Bool.true_and]; exact ih)
      | false => exact ev_ite_neg (by simp) (ev_some fun _ => by simp)
theorem needsOf_rows (l : List S98) (hl : l.length ≤ 10) : (needsOf l).length = 3 ∧ ∀ r ∈ needsOf l, r.length ≤ 10 := by
  have hz : ∀ r ∈ List.replicate 3 ([] : List Int), r = [] := fun r hr => (List.mem_replicate.1 hr).2
  obtain ⟨n1, n2⟩ := needsGo_inv l l.length 0 (List.replicate 3 []) (fun r hr => by rw [hz r hr]; exact List.Pairwise.nil) (fun r hr => by rw [hz r hr]; simp)
  refine ⟨n1.trans (by simp), fun r hr => ?_⟩
  have := n2 r hr
  omega
theorem runp_same (s : List Int) (l : List S98) (ord : List Int) (hs : s.length ≤ 1048576) (hl : l.length ≤ 1048576) (ho : ord.length ≤ 1048576) : ∃ x : List Int × List Int × Bool, Ev (fun k => spec_RunPieces.f k s l ord) x ∧ Ev (fun k => impl_RunPieces.f k s l ord) x ∧ x.1.length ≤ 1048576 ∧ x.2.1.length ≤ 1048576 := by
  have noS : Ev (fun k => spec_RunPieces.j0 k s l ord true) ([], [], false) := ev_stop fun k => by rw [spec_RunPieces.j0, if_pos rfl]
  have noI : Ev (fun k => impl_RunPieces.j0 k s l ord true) ([], [], false) := ev_stop fun k => by rw [impl_RunPieces.j0, if_pos rfl]
  have t1 := sstore_tells s hs
  have t2 := store_tells s
  have g1 := sgoodsteps_tells l hl
  have g2 := goodsteps_tells l hl
  unfold spec_RunPieces.f impl_RunPieces.f
  cases h1 : storeB s with
  | false => exact ⟨([], [], false), ev_bind t1 (ev_ite_neg (by simp [h1]) noS), ev_some_bind t2 (ev_ite_neg (by simp [h1]) noI), by simp, by simp⟩
  | true =>
    have h12 : s.length = 12 := by
      unfold storeB at h1
      simp only [Bool.and_eq_true, decide_eq_true_eq] at h1
      exact h1.1
    cases h2 : stepsB l with
    | false => exact ⟨([], [], false), ev_bind t1 (ev_ite_pos h1 (ev_bind g1 (ev_ite_neg (by simp [h2]) noS))), ev_some_bind t2 (ev_ite_pos h1 (ev_bind g2 (ev_ite_neg (by simp [h2]) noI))), by simp, by simp⟩
    | true =>
      by_cases h3 : ord.length = 3
      · have o1 := sonce_tells 3 2 (by unfold wrap64; omega) ord ho
        have o2 : Ev (fun k => impl_areOnce.f k ord 3) (onceM 2 ord) := by
          have := rise_tells (ord.mergeSort fun x y => decide (x ≤ y)) 0 2 (by rw [List.length_mergeSort]; omega)
          unfold impl_areOnce.f
          exact ev_ite_pos (by omega) (by rw [show wrap64 ((3 : Int) - 1) = 2 from by unfold wrap64; omega]; exact this)
        cases h4 : onceM 2 ord with
        | false =>
          rw [h4] at o1 o2
          exact ⟨([], [], false), ev_bind t1 (ev_ite_pos h1 (ev_bind g1 (ev_ite_pos h2 (ev_ite_pos (by omega) (ev_bind o1 noS))))), ev_some_bind t2 (ev_ite_pos h1 (ev_bind g2 (ev_ite_pos h2 (ev_ite_pos (by omega) (ev_bind o2 noI))))), by simp, by simp⟩
        | true =>
          obtain ⟨_, hm⟩ := (onceM_iff 2 ord).1 h4
          rw [h4] at o1 o2
          obtain ⟨ok, h10⟩ := stepsB_ok h2
          obtain ⟨s1, s2, _⟩ := needsOf_tells l h10 ok
          obtain ⟨r1, r2⟩ := needsOf_rows l h10
          generalize needsOf l = nd at s1 s2 r1 r2
          have a1 := l0_s l h10 ok s ord nd h12 h3 hm r1 r2 ord.length 0 (by omega)
          have a2 := l0_i l h10 ok s ord nd h12 h3 hm r1 r2 ord.length 0 [] (by omega) (by simp)
          have a3 := pieces_tells l h10 ok
          obtain ⟨n1, n2⟩ := runIx_len l (allIx l ord) (s, List.replicate l.length 0)
          refine ⟨if (List.range' 0 ord.length).all (chkAt nd ord) = true then runEnd l s (allIx l ord) else ([], [], false), ?_, ?_, ?_, ?_⟩
          · refine ev_bind t1 (ev_ite_pos h1 (ev_bind g1 (ev_ite_pos h2 (ev_ite_pos (by omega) (ev_bind o1 ?_)))))
            refine Ev.step (fun k => by rw [spec_RunPieces.j0]) ?_
            exact ev_ite_neg (by simp) (ev_bind s1 a1)
          · refine ev_some_bind t2 (ev_ite_pos h1 (ev_bind g2 (ev_ite_pos h2 (ev_ite_pos (by omega) (ev_bind o2 ?_)))))
            refine Ev.step (fun k => by rw [impl_RunPieces.j0]) ?_
            exact ev_ite_neg (by simp) (ev_bind s2 (ev_bind a3 a2))
          · split
            · unfold runEnd
              simp only
              rw [n1]
              exact hs
            · simp
          · split
            · unfold runEnd
              simp only at n2 ⊢
              rw [n2, List.length_replicate]
              omega
            · simp
      · exact ⟨([], [], false), ev_bind t1 (ev_ite_pos h1 (ev_bind g1 (ev_ite_pos h2 (ev_ite_neg (by omega) noS)))), ev_some_bind t2 (ev_ite_pos h1 (ev_bind g2 (ev_ite_pos h2 (ev_ite_neg (by omega) noI)))), by simp, by simp⟩
theorem FnExactRunPieces : laws_FnExactRunPieces.Good := by
  intro l0 l1 l2 ⟨hm0, _⟩ ⟨hm, _⟩ ⟨hm2, _⟩
  refine Ev.rounds ?_
  unfold laws_FnExactRunPieces.f
  by_cases hg0 : (l0.length : Int) > 1048576
  · exact ev_ite_pos hg0 (ev_some fun _ => rfl)
  refine ev_ite_neg hg0 ?_
  by_cases hg2 : (l2.length : Int) > 1048576
  · exact ev_ite_pos hg2 (ev_some fun _ => rfl)
  refine ev_ite_neg hg2 ?_
  rw [szstep l1 hm]
  refine Ev.congr (fun k => Option.bind_some ..) ?_
  by_cases hg : 1048576 < (l1.length : Int)
  · rw [if_pos hg]
    exact ev_ite_pos (by decide) (ev_some fun _ => rfl)
  rw [if_neg hg]
  refine ev_ite_neg (by omega) ?_
  have hI := toints_tells l0 (by omega)
  have hJ := toints_tells l2 (by omega)
  have hT := toStep_tells l1 (by omega)
  have hl : (l1.map convStep).length ≤ 1048576 := by simp; omega
  generalize l1.map convStep = t at hT hl
  obtain ⟨⟨x, y, b⟩, hs, hi, hx, hy⟩ := runp_same l0 t l2 (by omega) hl (by omega)
  simp only at hx hy
  have ex := eqints_tells x (by omega)
  have ey := eqints_tells y (by omega)
  refine ev_bind hI (ev_bind hT (ev_bind hJ (ev_bind hs (ev_bind hI (ev_bind hT (ev_bind hJ (ev_bind hi (ev_bind ex (ev_ite_pos rfl (ev_bind ey (ev_ite_pos rfl ?_)))))))))))
  have m0 := markInt_tells l0 1 (by omega) (by omega)
  obtain ⟨r, hr⟩ := markStep_tells t (1 + l0.length) (by omega) (by omega) hl
  have m3 := markInt_tells l2 (1 + l0.length + 5 * t.length) (by omega) (by omega)
  have m1 := markInt_tells x 1 (by omega) (by omega)
  have m2 := markInt_tells y (1 + x.length) (by omega) (by omega)
  have h1 := heldInt_tells 1 x.length (by omega) (by omega)
  have h2 := heldInt_tells (1 + x.length) y.length (by omega) (by omega)
  refine Ev.step (fun k => by rw [laws_FnExactRunPieces.j0]) ?_
  refine ev_ite_neg (by simp) (ev_bind hI (ev_bind (eqints_tells l0 (by omega)) (ev_ite_pos rfl (ev_bind hT (ev_bind (eqStep_tells t (by omega)) (ev_ite_pos rfl (ev_bind hJ (ev_bind (eqints_tells l2 (by omega)) (ev_ite_pos rfl (ev_bind m0 (ev_bind hr (ev_bind m3 (ev_ite_neg (by simp only; omega) (ev_bind ex (ev_ite_pos rfl (ev_bind ey (ev_ite_pos rfl ?_)))))))))))))))))
  refine Ev.step (fun k => by rw [laws_FnExactRunPieces.j1]) ?_
  refine ev_ite_neg (by simp) (ev_bind m1 (ev_bind m2 (ev_bind h1 (ev_ite_neg (by omega) (ev_bind h2 (ev_ite_neg (by omega) (ev_ite_pos rfl ?_)))))))
  refine ev_bind hI (ev_bind hT (ev_bind hJ (ev_bind hi (ev_bind ex (ev_ite_pos rfl (ev_bind ey (ev_ite_pos rfl ?_)))))))
  refine Ev.step (fun k => by rw [laws_FnExactRunPieces.j2]) ?_
  exact ev_ite_neg (by simp) (ev_bind h1 (ev_ite_neg (by omega) (ev_bind h2 (ev_ite_neg (by omega) (ev_ite_pos rfl (ev_some fun _ => rfl))))))

end Go.Proofs.Ytbaojaadmooogaa.Pure
