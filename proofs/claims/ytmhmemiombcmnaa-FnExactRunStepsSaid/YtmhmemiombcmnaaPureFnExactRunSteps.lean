/- The law FnExactRunSteps: the program's function tells what the reference tells, for all arguments; here: of the two as plain functions of numbers and lists. -/
import Derived.Test.YtmhmemiombcmnaaQFnExactRunSteps
namespace Go.Proofs.Ytmhmemiombcmnaa.Pure
open Go.RowKit Go.Proofs.Ytmhmemiombcmnaa.PFnExactRunSteps Go.Proofs.YtmhmemiombcmnaaW.PrintWords Go.Proofs.YtmhmemiombcmnaaW.PrintLast Go.Proofs.YtmhmemiombcmnaaW.PrintMore
set_option linter.unusedVariables false
set_option linter.unusedSimpArgs false

def cellOf (s : S92) : Int := wrap64 (wrap64 (4 * s.f1) + s.f2)

theorem sin_tells (a b c : Int) : spec_l1In.f a b c = some (decide (b ≤ a) && decide (a ≤ c)) := by
  unfold spec_l1In.f
  by_cases h : a ≥ b
  · rw [if_pos h]; simp [show b ≤ a from h]
  · rw [if_neg h]; simp [show ¬ b ≤ a from h]

def inB (a b x : Int) : Bool := decide (a ≤ x) && decide (x ≤ b)
theorem drop_at (l : List Int) (i : Nat) (h : i < l.length) : l.drop i = l.getD i 0 :: l.drop (i + 1) := by
  rw [List.drop_eq_getElem_cons h]
  simp [List.getD, List.getElem?_eq_getElem h]
/-- What a search for a fault comes to, round by round. -/
theorem all_ends {F : Nat → Nat → Option Bool} {p : Nat → Bool} {r : Bool} {n : Nat} (stop : Ev (fun k => F k n) r) (go : ∀ i, i < n → p i = true → ∀ q, Ev (fun k => F k (i + 1)) q → Ev (fun k => F k i) q) (no : ∀ i, i < n → p i = false → Ev (fun k => F k i) false) :
    ∀ (d i : Nat), i + d = n → Ev (fun k => F k i) ((List.range' i d).all p && r)
  | 0, i, h => by
    obtain rfl : i = n := by omega
    simpa using stop
  | d + 1, i, h => by
    have ih := all_ends stop go no d (i + 1) (by omega)
    rw [List.range'_succ, List.all_cons, Bool.and_assoc]
    cases hp : p i with
    | true => simpa using go i (by omega) hp _ ih
    | false => simpa using no i (by omega) hp
theorem all_from {F : Nat → Nat → Option Bool} {p : Nat → Bool} {r : Bool} {n : Nat} (stop : Ev (fun k => F k n) r) (go : ∀ i, i < n → p i = true → ∀ q, Ev (fun k => F k (i + 1)) q → Ev (fun k => F k i) q) (no : ∀ i, i < n → p i = false → Ev (fun k => F k i) false) :
    Ev (fun k => F k 0) ((List.range n).all p && r) := by
  rw [List.range_eq_range']
  exact all_ends stop go no n 0 (by omega)
theorem next (i : Nat) (h : i < 4611686018427387904) : wrap64 ((i : Int) + 1) = ((i + 1 : Nat) : Int) := by
  rw [w64 (by omega) (by omega)]
  omega

def convStep (x : S94) : S92 := ⟨x.f0, x.f1, x.f2, x.f3, x.f4⟩
theorem toStep_l (l : List S94) (hl : l.length ≤ 4611686018427387903) : ∀ (d i : Nat) (m : List S92), m.length = l.length → i + d = l.length → m.take i = (l.map convStep).take i → Ev (fun k => laws_toStepS.l0 k l m (i : Int)) (l.map convStep)
  | 0, i, m, hm, h, ht => ev_stop fun k => by
    rw [laws_toStepS.l0, if_neg (by omega)]
    rw [List.take_of_length_le (by omega), List.take_of_length_le (by simp; omega)] at ht
    rw [ht]
  | d + 1, i, m, hm, h, ht => by
    refine ev_step (toStep_l l hl d (i + 1) (m.set i (convStep (l.getD i z94))) (by simpa using hm) (by omega) ?_) fun k => by
      rw [laws_toStepS.l0, if_pos (by omega), if_pos (by omega)]
      unfold laws_toStep.f
      rw [Option.bind_some, if_pos (by omega), next i (by omega)]
      rfl
    rw [List.take_succ_eq_append_getElem (by simp; omega), List.take_succ_eq_append_getElem (by simp; omega), List.take_set_of_le (Nat.le_refl i), ht]
    simp [List.getD, List.getElem?_eq_getElem (show i < l.length by omega)]
theorem toStep_tells (l : List S94) (hl : l.length ≤ 1048576) : Ev (fun k => laws_toStepS.f k l) (l.map convStep) := by
  refine Ev.congr (g := fun k => laws_toStepS.f k l) (fun k => ?_) (toStep_l l (by omega) l.length 0 (List.replicate l.length z92) (by simp) (by omega) (by simp))
  unfold laws_toStepS.f
  rw [if_pos (by omega), if_pos (by omega), Int.toNat_natCast]
  rfl
theorem eqStep_l (l : List S92) (hl : l.length ≤ 4611686018427387903) : ∀ (d i : Nat), i + d = l.length → Ev (fun k => laws_eqStepS.l0 k l l (i : Int)) true
  | 0, i, h => ev_stop fun k => by
    rw [laws_eqStepS.l0, if_neg (by omega)]
  | d + 1, i, h => by
    refine ev_step (eqStep_l l hl d (i + 1) (by omega)) fun k => by
      rw [laws_eqStepS.l0, if_pos (by omega), if_pos (by omega), if_pos (by omega)]
      unfold laws_eqStep.f
      simp [next i (by omega)]
theorem eqStep_tells (l : List S92) (hl : l.length ≤ 4611686018427387903) : Ev (fun k => laws_eqStepS.f k l l) true := by
  refine Ev.congr (g := fun k => laws_eqStepS.f k l l) (fun k => ?_) (eqStep_l l hl l.length 0 (by omega))
  unfold laws_eqStepS.f
  rw [if_pos rfl]
  rfl

def stepOk (s : S92) (i : Int) : Bool :=
  (inB 0 2 s.f1 && inB 0 3 s.f2) && (if s.f0 = 1 then (decide (s.f3 = 0) && decide (s.f4 = 0)) else if s.f0 = 2 then (decide (s.f2 = 0) && (inB 0 (wrap64 (i - 1)) s.f3 && inB (-99) 99 s.f4)) else if s.f0 = 3 then (inB 0 (wrap64 (i - 1)) s.f3 && decide (s.f4 = 0)) else false)
def stepsB (l : List S92) : Bool := (List.range l.length).all (fun i => stepOk (rd_T92 l i) i) && decide (l.length ≤ 10)
theorem isStep_tells (k : Nat) (s : S92) (i : Int) : impl_isStep.f (k + 1) s.f0 s.f1 s.f2 s.f3 s.f4 i = some (stepOk s i) := by
  unfold impl_isStep.f stepOk
  simp only [within_tells, Option.bind_some, impl_isStep.j0]
  unfold inB
  cases (decide (0 ≤ s.f1) && decide (s.f1 ≤ 2)) with
  | false => simp
  | true =>
    cases (decide (0 ≤ s.f2) && decide (s.f2 ≤ 3)) with
    | false => simp
    | true =>
      by_cases h1 : s.f0 = 1
      · by_cases h2 : s.f3 = 0 <;> simp [h1, h2] <;> rfl
      · by_cases h2 : s.f0 = 2
        · by_cases h3 : s.f2 = 0
          · cases h4 : (decide (0 ≤ s.f3) && decide (s.f3 ≤ wrap64 (i - 1))) <;> simp [h1, h2, h3, h4]
          · simp [h1, h2, h3]
        · by_cases h3 : s.f0 = 3
          · cases h4 : (decide (0 ≤ s.f3) && decide (s.f3 ≤ wrap64 (i - 1))) <;> simp [h1, h2, h3, h4] <;> rfl
          · simp [h1, h2, h3]
theorem goodsteps_tells (l : List S92) (hl : l.length ≤ 1048576) : Ev (fun k => impl_GoodSteps.f k l) (stepsB l) := by
  have round : ∀ (i : Nat), i < l.length → ∀ q, Ev (fun k => if stepOk (rd_T92 l i) i = true then impl_GoodSteps.l0 k l l (l.length : Int) ((i + 1 : Nat) : Int) else some false) q → Ev (fun k => impl_GoodSteps.l0 k l l (l.length : Int) (i : Int)) q := by
    intro i hi q hq
    refine Ev.step (f := fun k => (impl_isStep.f k (rd_T92 l i).f0 (rd_T92 l i).f1 (rd_T92 l i).f2 (rd_T92 l i).f3 (rd_T92 l i).f4 i).bind fun t => if t = true then impl_GoodSteps.l0 k l l (l.length : Int) ((i + 1 : Nat) : Int) else some false) (fun k => ?_) ?_
    · rw [impl_GoodSteps.l0, if_pos (by omega), if_pos (by omega), if_pos (by omega), next i (by omega)]
    · exact ev_bind (Ev.step (fun k => isStep_tells k _ _) (Ev.now _)) hq
  refine all_from (F := fun k i => impl_GoodSteps.l0 k l l (l.length : Int) (i : Int)) (ev_stop fun k => ?_) (fun i hi hp q hq => round i hi q ?_) (fun i hi hp => round i hi _ ?_)
  · rw [impl_GoodSteps.l0, if_neg (by omega)]
    congr 1
    exact decide_eq_decide.2 (by omega)
  · exact ev_ite_pos hp hq
  · exact ev_ite_neg (by simp [hp]) (ev_some fun _ => rfl)
theorem sgood_j (k : Nat) (l x6 : List S92) (n i : Int) (s : S92) : spec_GoodSteps.j1 (k + 1) l i x6 n i (!(inB 0 2 s.f1 && inB 0 3 s.f2 && inB (-99) 99 s.f4)) s.f0 s.f1 s.f2 s.f3 s.f4 = if stepOk s i = true then spec_GoodSteps.l0 k l x6 n (wrap64 (i + 1)) else some false := by
  rw [spec_GoodSteps.j1]
  unfold stepOk
  rw [sin_tells, Option.bind_some]
  change (if (!(inB 0 2 s.f1 && inB 0 3 s.f2 && inB (-99) 99 s.f4)) = true then _ else if s.f0 = 1 then _ else if s.f0 = 2 then if inB 0 (wrap64 (i - 1)) s.f3 = true then _ else _ else if s.f0 = 3 then if inB 0 (wrap64 (i - 1)) s.f3 = true then _ else _ else _) = _
  have h0 : inB (-99) 99 0 = true := by decide
  cases inB 0 2 s.f1 <;> cases inB 0 3 s.f2 <;> try (simp; done)
  by_cases h1 : s.f0 = 1
  · by_cases h4 : s.f4 = 0
    · by_cases h3 : s.f3 = 0 <;> simp [h1, h3, h4, h0]
    · cases inB (-99) 99 s.f4 <;> simp [h1, h4]
  · by_cases h2 : s.f0 = 2
    · cases inB (-99) 99 s.f4 <;> cases inB 0 (wrap64 (i - 1)) s.f3 <;> by_cases h3 : s.f2 = 0 <;> simp [h1, h2, h3]
    · by_cases h3 : s.f0 = 3
      · by_cases h4 : s.f4 = 0
        · cases inB 0 (wrap64 (i - 1)) s.f3 <;> simp [h1, h2, h3, h4, h0]
        · cases inB (-99) 99 s.f4 <;> simp [h1, h2, h3, h4]
      · simp [h1, h2, h3]
theorem sgoodsteps_tells (l : List S92) (hl : l.length ≤ 1048576) : Ev (fun k => spec_GoodSteps.f k l) (stepsB l) := by
  have round : ∀ (i : Nat), i < l.length → ∀ q, Ev (fun k => if stepOk (rd_T92 l i) i = true then spec_GoodSteps.l0 k l l (l.length : Int) ((i + 1 : Nat) : Int) else some false) q → Ev (fun k => spec_GoodSteps.l0 k l l (l.length : Int) (i : Int)) q := by
    intro i hi q hq
    generalize hs : rd_T92 l i = s at hq
    refine Ev.step (f := fun k => spec_GoodSteps.j1 k l i l (l.length : Int) i (!(inB 0 2 s.f1 && inB 0 3 s.f2 && inB (-99) 99 s.f4)) s.f0 s.f1 s.f2 s.f3 s.f4) (fun k => ?_) (Ev.step (fun k => by rw [sgood_j, next i (by omega)]) hq)
    rw [spec_GoodSteps.l0, if_pos (by omega), if_pos (by omega), if_pos (by omega), hs]
    simp only [sin_tells, Option.bind_some]
    change (if inB 0 2 s.f1 = true then if inB 0 3 s.f2 = true then spec_GoodSteps.j1 _ _ _ _ _ _ (!(inB (-99) 99 s.f4)) _ _ _ _ _ else _ else _) = _
    cases inB 0 2 s.f1 <;> cases inB 0 3 s.f2 <;> simp
  refine all_from (F := fun k i => spec_GoodSteps.l0 k l l (l.length : Int) (i : Int)) (ev_stop fun k => ?_) (fun i hi hp q hq => round i hi q ?_) (fun i hi hp => round i hi _ ?_)
  · rw [spec_GoodSteps.l0, if_neg (by omega)]
    congr 1
    exact decide_eq_decide.2 (by omega)
  · exact ev_ite_pos hp hq
  · exact ev_ite_neg (by simp [hp]) (ev_some fun _ => rfl)

theorem sall_l (l : List Int) (a b : Int) (hl : l.length ≤ 4611686018427387904) : ∀ (d i : Nat), i + d = l.length → Ev (fun k => spec_l1All.l0 k a b l (l.length : Int) (i : Int)) ((l.drop i).all (inB a b))
  | 0, i, h => ev_stop fun k => by
    rw [spec_l1All.l0, if_neg (by omega), List.drop_of_length_le (by omega)]
    rfl
  | d + 1, i, h => by
    have ih := sall_l l a b hl d (i + 1) (by omega)
    have h1 : wrap64 ((i : Int) + 1) = ((i + 1 : Nat) : Int) := by rw [w64 (by omega) (by omega)]; omega
    rw [drop_at l i (by omega), List.all_cons]
    refine Ev.step (f := fun k => if inB a b (l.getD i 0) = true then spec_l1All.l0 k a b l (l.length : Int) ((i + 1 : Nat) : Int) else some false) (fun k => by
      rw [spec_l1All.l0, if_pos (by omega), if_pos (by omega), if_pos (by omega), sin_tells, Option.bind_some, h1, rdn]
      rfl) ?_
    cases inB a b (l.getD i 0) with
    | true => simpa using ih
    | false => exact ⟨0, fun k _ => by simp⟩
theorem sall_tells (l : List Int) (a b : Int) (hl : l.length ≤ 4611686018427387904) : Ev (fun k => spec_l1All.f k l a b) (l.all (inB a b)) := by
  have h := sall_l l a b hl l.length 0 (by omega)
  rw [List.drop_zero] at h
  exact h

/-- The rising numbers from m on. -/
def upFrom (m : Int) : Nat → List Int
  | 0 => []
  | n + 1 => m :: upFrom (m + 1) n
theorem upFrom_len (m : Int) : ∀ n, (upFrom m n).length = n
  | 0 => rfl
  | n + 1 => by rw [upFrom, List.length_cons, upFrom_len (m + 1) n]
theorem take_set_succ (l : List Int) (i : Nat) (m : Int) (h : i < l.length) : (l.set i m).take (i + 1) = l.take i ++ [m] := by
  rw [List.take_succ_eq_append_getElem (by simpa using h), List.take_set_of_le (Nat.le_refl i)]
  simp
theorem markInt_l : ∀ (d i : Nat) (l : List Int) (m : Int), i + d = l.length → 0 ≤ m → m + d ≤ 4611686018427387903 → l.length ≤ 4611686018427387903 → Ev (fun k => laws_markIntS.l0 k l m (i : Int)) (m + d, l.take i ++ upFrom m d)
  | 0, i, l, m, h, _, _, _ => ev_stop fun k => by
    rw [laws_markIntS.l0, if_neg (by omega), List.take_of_length_le (by omega)]
    simp [upFrom]
  | d + 1, i, l, m, h, hm, hb, hl => by
    have ih := markInt_l d (i + 1) (l.set i m) (m + 1) (by simpa using by omega) (by omega) (by omega) (by simpa using hl)
    rw [take_set_succ l i m (by omega), List.append_assoc] at ih
    have e : m + 1 + (d : Int) = m + ((d + 1 : Nat) : Int) := by omega
    rw [e] at ih
    exact ev_step ih fun k => by rw [laws_markIntS.l0, if_pos (by omega), if_pos (by omega), w64 (by omega) (by omega), next i (by omega), Int.toNat_natCast]
theorem markInt_tells (l : List Int) (m : Int) (hm : 0 ≤ m) (hb : m + l.length ≤ 4611686018427387903) : Ev (fun k => laws_markIntS.f k l m) (m + l.length, upFrom m l.length) := by
  have h := markInt_l l.length 0 l m (by omega) hm hb (by omega)
  rw [List.take_zero, List.nil_append] at h
  exact h
theorem heldInt_l (l : List Int) (hl : l.length ≤ 4611686018427387903) : ∀ (d i : Nat) (m : Int), i + d = l.length → l.drop i = upFrom m d → 0 ≤ m → m + d ≤ 4611686018427387903 → Ev (fun k => laws_heldIntS.l0 k l m (i : Int)) (m + d)
  | 0, i, m, h, _, _, _ => ev_stop fun k => by
    rw [laws_heldIntS.l0, if_neg (by omega)]
    simp
  | d + 1, i, m, h, he, hm, hb => by
    rw [drop_at l i (by omega), upFrom] at he
    injection he with e1 e2
    have ih := heldInt_l l hl d (i + 1) (m + 1) (by omega) e2 (by omega) (by omega)
    have e : m + 1 + (d : Int) = m + ((d + 1 : Nat) : Int) := by omega
    rw [e] at ih
    exact ev_step ih fun k => by rw [laws_heldIntS.l0, if_pos (by omega), if_pos (by omega), rdn, if_pos e1, w64 (by omega) (by omega), next i (by omega)]
theorem heldInt_tells (m : Int) (n : Nat) (hm : 0 ≤ m) (hb : m + n ≤ 4611686018427387903) : Ev (fun k => laws_heldIntS.f k (upFrom m n) m) (m + n) := by
  have h := heldInt_l (upFrom m n) (by rw [upFrom_len]; omega) n 0 m (by rw [upFrom_len]; omega) (by simp) hm hb
  exact h

theorem upFrom_get : ∀ (n i : Nat) (m : Int), i < n → (upFrom m n).getD i 0 = m + i
  | 0, i, m, h => by omega
  | n + 1, 0, m, h => by simp [upFrom]
  | n + 1, i + 1, m, h => by
    have := upFrom_get n i (m + 1) (by omega)
    rw [upFrom, List.getD_cons_succ, this]
    omega
theorem columns_l (n : Nat) (hn : n ≤ 1000000000) : ∀ (d i : Nat) (acc : List Int), i + d = n → acc.length + d ≤ 1000000000 → Ev (fun k => impl_allColumns.l0 k acc (n : Int) (i : Int)) (acc ++ upFrom (i : Int) d)
  | 0, i, acc, h, _ => ev_stop fun k => by
    rw [impl_allColumns.l0, if_neg (by omega)]
    simp [upFrom]
  | d + 1, i, acc, h, hb => by
    have ih := columns_l n hn d (i + 1) (acc ++ [(i : Int)]) (by omega) (by simp; omega)
    have e : ((i + 1 : Nat) : Int) = (i : Int) + 1 := by omega
    rw [upFrom]
    rw [List.append_assoc, e] at ih
    exact ev_step ih fun k => by
      rw [impl_allColumns.l0, if_pos (by omega), if_pos (by omega), next i (by omega), e]
theorem columns_tells (n : Nat) (hn : n ≤ 1000000000) : Ev (fun k => impl_allColumns.f k (n : Int)) (upFrom 0 n) := by
  have h := columns_l n hn n 0 [] (by omega) (by simpa using hn)
  exact h

def storeB (l : List Int) : Bool := decide (l.length = 12) && l.all (inB (-1000000) 1000000)
theorem sstore_tells (l : List Int) (hl : l.length ≤ 1048576) : Ev (fun k => spec_l15Store.f k l) (storeB l) := by
  unfold spec_l15Store.f storeB
  by_cases h : l.length = 12
  · refine ev_ite_pos (by omega) (ev_bind (sall_tells l (-1000000) 1000000 (by omega)) (ev_some fun _ => ?_))
    simp [h]
  · refine ev_ite_neg (by omega) (ev_some fun _ => ?_)
    simp [h]
theorem store_tells (l : List Int) : impl_isStore.f l = some (storeB l) := rfl
/-- What a step tells, and the store behind it. -/
def stepGo (st told : List Int) (s : S92) : Int × List Int :=
  if s.f0 = 1 then (rd st (cellOf s), st) else if s.f0 = 2 then (Int.tmod (wrap64 (rd told s.f3 + s.f4)) 1000, st) else (rd told s.f3, st.set (cellOf s).toNat (rd told s.f3))
theorem stepGo_len (st told : List Int) (s : S92) : (stepGo st told s).2.length = st.length := by
  unfold stepGo
  split
  · rfl
  · split <;> simp
theorem stepOk_facts {s : S92} {i : Nat} (hi : i ≤ 1048576) (h : stepOk s i = true) : 0 ≤ cellOf s ∧ cellOf s < 12 ∧ (s.f0 = 1 ∨ (s.f0 ≠ 1 ∧ 0 ≤ s.f3 ∧ s.f3 < i)) := by
  unfold stepOk inB at h
  have e : wrap64 ((i : Int) - 1) = (i : Int) - 1 := w64 (by omega) (by omega)
  rw [e] at h
  simp only [Bool.and_eq_true, decide_eq_true_eq] at h
  obtain ⟨⟨⟨a1, a2⟩, a3, a4⟩, hb⟩ := h
  have c : cellOf s = 4 * s.f1 + s.f2 := by
    have e1 : wrap64 (4 * s.f1) = 4 * s.f1 := w64 (by omega) (by omega)
    unfold cellOf
    rw [e1, w64 (by omega) (by omega)]
  refine ⟨by omega, by omega, ?_⟩
  by_cases h1 : s.f0 = 1
  · exact .inl h1
  · rw [if_neg h1] at hb
    by_cases h2 : s.f0 = 2
    · rw [if_pos h2] at hb
      simp only [Bool.and_eq_true, decide_eq_true_eq] at hb
      exact .inr ⟨h1, by omega, by omega⟩
    · rw [if_neg h2] at hb
      by_cases h3 : s.f0 = 3
      · rw [if_pos h3] at hb
        simp only [Bool.and_eq_true, decide_eq_true_eq] at hb
        exact .inr ⟨h1, by omega, by omega⟩
      · rw [if_neg h3] at hb
        exact absurd hb (by simp)
theorem step_i (st told : List Int) (s : S92) (hs : st.length = 12) (h0 : 0 ≤ cellOf s) (h1 : cellOf s < 12) (h2 : s.f0 = 1 ∨ (s.f0 ≠ 1 ∧ 0 ≤ s.f3 ∧ s.f3 < told.length)) : impl_Step_run.f s.f0 s.f1 s.f2 s.f3 s.f4 st told = some (stepGo st told s) := by
  unfold impl_Step_run.f impl_Step_cell.f stepGo
  change (if s.f0 = 1 then (some (cellOf s)).bind _ else if s.f0 = 2 then _ else (some (cellOf s)).bind _) = _
  rcases h2 with h2 | ⟨h2, h3, h4⟩
  · rw [if_pos h2, if_pos h2, Option.bind_some, if_pos h0, if_pos (by omega)]
  · rw [if_neg h2, if_neg h2]
    by_cases h5 : s.f0 = 2
    · rw [if_pos h5, if_pos h5, if_pos h3, if_pos h4]
    · rw [if_neg h5, if_neg h5, Option.bind_some, if_pos h3, if_pos h4, if_pos h0, if_pos (by omega)]
theorem step_s (st told : List Int) (l : List S92) (i : Nat) (hi : i < l.length) (ht : told.length = l.length) (hs : st.length = 12) (h0 : 0 ≤ cellOf (rd_T92 l i)) (h1 : cellOf (rd_T92 l i) < 12) (h2 : (rd_T92 l i).f0 = 1 ∨ ((rd_T92 l i).f0 ≠ 1 ∧ 0 ≤ (rd_T92 l i).f3 ∧ (rd_T92 l i).f3 < told.length)) : spec_l15Step.f st told l (i : Int) = some ((stepGo st told (rd_T92 l i)).2, told.set i (stepGo st told (rd_T92 l i)).1) := by
  unfold spec_l15Step.f
  rw [if_pos (by omega), if_pos (by omega)]
  generalize rd_T92 l i = s at h0 h1 h2
  unfold stepGo
  change (if s.f0 = 1 then if 0 ≤ cellOf s then if cellOf s < (st.length : Int) then _ else _ else _ else if s.f0 = 2 then _ else if 0 ≤ s.f3 then if s.f3 < (told.length : Int) then if 0 ≤ cellOf s then if cellOf s < (st.length : Int) then _ else _ else _ else _ else _) = _
  rcases h2 with h2 | ⟨h2, h3, h4⟩
  · rw [if_pos h2, if_pos h2, if_pos h0, if_pos (by omega), if_pos (by omega)]
    rfl
  · rw [if_neg h2, if_neg h2]
    by_cases h5 : s.f0 = 2
    · rw [if_pos h5, if_pos h5, if_pos h3, if_pos h4, if_pos (by omega)]
      rfl
    · rw [if_neg h5, if_neg h5, if_pos h3, if_pos h4, if_pos h0, if_pos (by omega), if_pos (by omega)]
      rfl
def runGo (l : List S92) : Nat → Nat → List Int → List Int → List Int × List Int
  | 0, _, st, told => (st, told)
  | d + 1, i, st, told => runGo l d (i + 1) (stepGo st told (rd_T92 l i)).2 (told.set i (stepGo st told (rd_T92 l i)).1)
theorem runGo_len (l : List S92) : ∀ (d i : Nat) (st told : List Int), (runGo l d i st told).1.length = st.length ∧ (runGo l d i st told).2.length = told.length
  | 0, i, st, told => ⟨rfl, rfl⟩
  | d + 1, i, st, told => by
    have h := runGo_len l d (i + 1) (stepGo st told (rd_T92 l i)).2 (told.set i (stepGo st told (rd_T92 l i)).1)
    rw [stepGo_len, List.length_set] at h
    exact h
theorem run_s (l : List S92) (hl : l.length ≤ 1048576) (ok : ∀ i, i < l.length → stepOk (rd_T92 l i) i = true) : ∀ (d i : Nat) (st told : List Int), i + d = l.length → st.length = 12 → told.length = l.length → Ev (fun k => spec_RunSteps.l0 k l st told (l.length : Int) (i : Int)) ((runGo l d i st told).1, (runGo l d i st told).2, true)
  | 0, i, st, told, h, _, _ => ev_stop fun k => by
    rw [spec_RunSteps.l0, if_neg (by omega)]
    rfl
  | d + 1, i, st, told, h, hs, ht => by
    obtain ⟨a, b, c⟩ := stepOk_facts (by omega) (ok i (by omega))
    have ih := run_s l hl ok d (i + 1) (stepGo st told (rd_T92 l i)).2 (told.set i (stepGo st told (rd_T92 l i)).1) (by omega) (by rw [stepGo_len]; exact hs) (by rw [List.length_set]; exact ht)
    exact ev_step ih fun k => by
      rw [spec_RunSteps.l0, if_pos (by omega), step_s st told l i (by omega) ht hs a b (c.imp_right fun ⟨c1, c2, c3⟩ => ⟨c1, c2, by omega⟩), Option.bind_some, next i (by omega)]
theorem run_i (l : List S92) (hl : l.length ≤ 1048576) (ok : ∀ i, i < l.length → stepOk (rd_T92 l i) i = true) : ∀ (d i : Nat) (st told : List Int), i + d = l.length → st.length = 12 → told.length = l.length → Ev (fun k => impl_runAll.l0 k l st told (upFrom 0 l.length) (l.length : Int) (i : Int)) (runGo l d i st told)
  | 0, i, st, told, h, _, _ => ev_stop fun k => by
    rw [impl_runAll.l0, if_neg (by omega)]
    rfl
  | d + 1, i, st, told, h, hs, ht => by
    obtain ⟨a, b, c⟩ := stepOk_facts (by omega) (ok i (by omega))
    have ih := run_i l hl ok d (i + 1) (stepGo st told (rd_T92 l i)).2 (told.set i (stepGo st told (rd_T92 l i)).1) (by omega) (by rw [stepGo_len]; exact hs) (by rw [List.length_set]; exact ht)
    have e : rd (upFrom 0 l.length) (i : Int) = (i : Int) := by
      rw [rdn, upFrom_get _ _ _ (by omega)]
      omega
    exact ev_step ih fun k => by
      rw [impl_runAll.l0, if_pos (by omega), if_pos (by omega), upFrom_len, if_pos (by omega), e, if_pos (by omega), if_pos (by omega), step_i st told _ hs a b (c.imp_right fun ⟨c1, c2, c3⟩ => ⟨c1, c2, by omega⟩), Option.bind_some, if_pos (by omega), next i (by omega), Int.toNat_natCast]
theorem stepsB_ok {l : List S92} (h : stepsB l = true) : (∀ i, i < l.length → stepOk (rd_T92 l i) i = true) ∧ l.length ≤ 10 := by
  unfold stepsB at h
  simp only [Bool.and_eq_true, List.all_eq_true, List.mem_range, decide_eq_true_eq] at h
  exact h

theorem szstep (l : List S94) (hl : l.length ≤ maxLen) : laws_szStepS.f l 1048576 = some (if 1048576 < (l.length : Int) then -1 else 1048576 - (l.length : Int)) := by
  have hm : maxLen ≤ 9223372036854775807 := by decide
  unfold laws_szStepS.f
  rw [w64 (by omega) (by omega)]
  split <;> split <;> first | rfl | omega

theorem toints_l (l : List Int) (hl : l.length ≤ 4611686018427387904) : ∀ (d i : Nat) (m : List Int), m.length = l.length → i + d = l.length → m.take i = l.take i → Ev (fun k => laws_toIntS.l0 k l m (i : Int)) l
  | 0, i, m, hm, h, ht => ev_stop fun k => by
    rw [laws_toIntS.l0, if_neg (by omega)]
    rw [List.take_of_length_le (by omega), List.take_of_length_le (by omega)] at ht
    rw [ht]
  | d + 1, i, m, hm, h, ht => by
    have h1 : wrap64 ((i : Int) + 1) = ((i + 1 : Nat) : Int) := by rw [w64 (by omega) (by omega)]; omega
    refine ev_step (toints_l l hl d (i + 1) (m.set i (l.getD i 0)) (by simpa using hm) (by omega) ?_) fun k => by
      rw [laws_toIntS.l0, if_pos (by omega), if_pos (by omega), if_pos (by omega), h1, rdn, Int.toNat_natCast]
    rw [List.take_succ_eq_append_getElem (by simp; omega), List.take_succ_eq_append_getElem (by omega), List.take_set_of_le (Nat.le_refl i), ht]
    simp [List.getD, List.getElem?_eq_getElem (show i < l.length by omega)]
theorem toints_tells (l : List Int) (hl : l.length ≤ 35184372088832) : Ev (fun k => laws_toIntS.f k l) l := by
  refine Ev.congr (g := fun k => laws_toIntS.f k l) (fun k => ?_) (toints_l l (by omega) l.length 0 (List.replicate l.length 0) (by simp) (by omega) (by simp))
  unfold laws_toIntS.f
  rw [if_pos (by omega), if_pos (by omega), Int.toNat_natCast]
  rfl

theorem markStep_l : ∀ (d i : Nat) (l : List S92) (m : Int), i + d = l.length → l.length ≤ 4611686018427387903 → 0 ≤ m → m + 5 * d ≤ 4611686018427387903 → ∃ r, Ev (fun k => laws_markStepS.l0 k l m (i : Int)) (m + 5 * d, r)
  | 0, i, l, m, h, _, _, _ => ⟨l, ev_stop fun k => by
    rw [laws_markStepS.l0, if_neg (by omega)]
    simp⟩
  | d + 1, i, l, m, h, hl, hm, hb => by
    have hs : ∃ l' : List S92, l'.length = l.length ∧ ∀ k, laws_markStepS.l0 (k + 1) l m (i : Int) = laws_markStepS.l0 k l' (m + 5) ((i + 1 : Nat) : Int) := by
      apply Exists.intro
      apply And.intro
      rotate_left
      · intro k
        rw [laws_markStepS.l0, if_pos (by omega), if_pos (by omega)]
        simp only [Option.bind_some]
        rw [w64 (i := m + 1) (by omega) (by omega), w64 (i := m + 1 + 1) (by omega) (by omega), w64 (i := m + 1 + 1 + 1) (by omega) (by omega), w64 (i := m + 1 + 1 + 1 + 1) (by omega) (by omega), w64 (i := m + 1 + 1 + 1 + 1 + 1) (by omega) (by omega), next i (by omega), show m + 1 + 1 + 1 + 1 + 1 = m + 5 by omega]
      · simp
    obtain ⟨l', hl', hk⟩ := hs
    obtain ⟨r, hr⟩ := markStep_l d (i + 1) l' (m + 5) (by omega) (by omega) (by omega) (by omega)
    have e : m + 5 + 5 * (d : Int) = m + 5 * ((d + 1 : Nat) : Int) := by omega
    rw [e] at hr
    exact ⟨r, ev_step hr hk⟩
theorem markStep_tells (l : List S92) (m : Int) (hm : 0 ≤ m) (hb : m ≤ 1000000000) (hl : l.length ≤ 1048576) : ∃ r, Ev (fun k => laws_markStepS.f k l m) (m + 5 * l.length, r) := markStep_l l.length 0 l m (by omega) (by omega) (by omega) (by omega)

theorem eqints_l (l : List Int) (hl : l.length ≤ 4611686018427387904) : ∀ (d i : Nat), i + d = l.length → Ev (fun k => laws_eqIntS.l0 k l l (i : Int)) true
  | 0, i, h => ev_stop fun k => by
    rw [laws_eqIntS.l0, if_neg (by omega)]
  | d + 1, i, h => by
    have h1 : wrap64 ((i : Int) + 1) = ((i + 1 : Nat) : Int) := by rw [w64 (by omega) (by omega)]; omega
    refine ev_step (eqints_l l hl d (i + 1) (by omega)) fun k => by
      rw [laws_eqIntS.l0, if_pos (by omega), if_pos (by omega), if_pos (by omega), if_pos rfl, h1]
theorem eqints_tells (l : List Int) (hl : l.length ≤ 4611686018427387904) : Ev (fun k => laws_eqIntS.f k l l) true := by
  refine Ev.congr (g := fun k => laws_eqIntS.f k l l) (fun k => ?_) (eqints_l l hl l.length 0 (by omega))
  unfold laws_eqIntS.f
  rw [if_pos rfl]
  rfl

theorem runs_same (s : List Int) (l : List S92) (hs : s.length ≤ 1048576) (hl : l.length ≤ 1048576) : ∃ x : List Int × List Int × Bool, Ev (fun k => spec_RunSteps.f k s l) x ∧ Ev (fun k => impl_RunSteps.f k s l) x ∧ x.1.length ≤ 1048576 ∧ x.2.1.length ≤ 1048576 := by
  have noS : Ev (fun k => spec_RunSteps.j0 k s l true) ([], [], false) := ev_stop fun k => by rw [spec_RunSteps.j0, if_pos rfl]
  have noI : Ev (fun k => impl_RunSteps.j0 k s l true) ([], [], false) := ev_stop fun k => by rw [impl_RunSteps.j0, if_pos rfl]
  cases h1 : storeB s with
  | false =>
    refine ⟨([], [], false), ?_, ?_, by simp, by simp⟩
    · unfold spec_RunSteps.f
      exact ev_bind (sstore_tells s hs) (ev_ite_neg (by simp [h1]) noS)
    · unfold impl_RunSteps.f
      exact ev_some_bind (store_tells s) (ev_ite_neg (by simp [h1]) noI)
  | true =>
    have h12 : s.length = 12 := by
      unfold storeB at h1
      simp only [Bool.and_eq_true, decide_eq_true_eq] at h1
      exact h1.1
    cases h2 : stepsB l with
    | false =>
      refine ⟨([], [], false), ?_, ?_, by simp, by simp⟩
      · unfold spec_RunSteps.f
        exact ev_bind (sstore_tells s hs) (ev_ite_pos h1 (ev_bind (sgoodsteps_tells l hl) (by rw [h2]; exact noS)))
      · unfold impl_RunSteps.f
        exact ev_some_bind (store_tells s) (ev_ite_pos h1 (ev_bind (goodsteps_tells l hl) (by rw [h2]; exact noI)))
    | true =>
      obtain ⟨ok, _⟩ := stepsB_ok h2
      obtain ⟨n1, n2⟩ := runGo_len l l.length 0 s (List.replicate l.length 0)
      refine ⟨((runGo l l.length 0 s (List.replicate l.length 0)).1, (runGo l l.length 0 s (List.replicate l.length 0)).2, true), ?_, ?_, by simp only; rw [n1, h12]; omega, by simp only; rw [n2, List.length_replicate]; exact hl⟩
      · unfold spec_RunSteps.f
        refine ev_bind (sstore_tells s hs) (ev_ite_pos h1 (ev_bind (sgoodsteps_tells l hl) ?_))
        rw [h2]
        refine ev_step (run_s l hl ok l.length 0 s (List.replicate l.length 0) (by omega) h12 (by simp)) fun k => ?_
        rw [spec_RunSteps.j0, if_neg (by simp), Option.bind_some, if_pos (by simp; omega), if_pos (by omega), if_pos (by omega)]
        simp
      · unfold impl_RunSteps.f
        refine ev_some_bind (store_tells s) (ev_ite_pos h1 (ev_bind (goodsteps_tells l hl) ?_))
        rw [h2]
        refine Ev.step (fun k => by rw [impl_RunSteps.j0]) ?_
        refine ev_ite_neg (by simp) (ev_bind (columns_tells l.length (by omega)) ?_)
        have h := run_i l hl ok l.length 0 s (List.replicate l.length 0) (by omega) h12 (by simp)
        refine ev_bind (a := runGo l l.length 0 s (List.replicate l.length 0)) ?_ (ev_some fun _ => rfl)
        refine Ev.congr (fun k => ?_) h
        unfold impl_runAll.f slices_Clone_int_int.f
        rw [if_pos (by omega), Option.bind_some, if_pos (by omega), if_pos (by omega), upFrom_len, Int.toNat_natCast]
        rfl
theorem FnExactRunSteps : laws_FnExactRunSteps.Good := by
  intro l0 l1 ⟨hm0, _⟩ ⟨hm, _⟩
  refine Ev.rounds ?_
  unfold laws_FnExactRunSteps.f
  by_cases hg0 : (l0.length : Int) > 1048576
  · exact ev_ite_pos hg0 (ev_some fun _ => rfl)
  refine ev_ite_neg hg0 ?_
  rw [szstep l1 hm]
  refine Ev.congr (fun k => Option.bind_some ..) ?_
  by_cases hg : 1048576 < (l1.length : Int)
  · rw [if_pos hg]
    exact ev_ite_pos (by decide) (ev_some fun _ => rfl)
  rw [if_neg hg]
  refine ev_ite_neg (by omega) ?_
  have hI := toints_tells l0 (by omega)
  have hT := toStep_tells l1 (by omega)
  have hl : (l1.map convStep).length ≤ 1048576 := by simp; omega
  generalize l1.map convStep = t at hT hl
  obtain ⟨⟨x, y, b⟩, hs, hi, hx, hy⟩ := runs_same l0 t (by omega) hl
  simp only at hx hy
  have ex := eqints_tells x (by omega)
  have ey := eqints_tells y (by omega)
  refine ev_bind hI (ev_bind hT (ev_bind hs (ev_bind hI (ev_bind hT (ev_bind hi (ev_bind ex (ev_ite_pos rfl (ev_bind ey (ev_ite_pos rfl ?_)))))))))
  have m0 := markInt_tells l0 1 (by omega) (by omega)
  obtain ⟨r, hr⟩ := markStep_tells t (1 + l0.length) (by omega) (by omega) hl
  have m1 := markInt_tells x 1 (by omega) (by omega)
  have m2 := markInt_tells y (1 + x.length) (by omega) (by omega)
  have h1 := heldInt_tells 1 x.length (by omega) (by omega)
  have h2 := heldInt_tells (1 + x.length) y.length (by omega) (by omega)
  refine Ev.step (fun k => by rw [laws_FnExactRunSteps.j0]) ?_
  refine ev_ite_neg (by simp) (ev_bind hI (ev_bind (eqints_tells l0 (by omega)) (ev_ite_pos rfl (ev_bind hT (ev_bind (eqStep_tells t (by omega)) (ev_ite_pos rfl (ev_bind m0 (ev_bind hr (ev_ite_neg (by simp only; omega) (ev_bind ex (ev_ite_pos rfl (ev_bind ey (ev_ite_pos rfl ?_)))))))))))))
  refine Ev.step (fun k => by rw [laws_FnExactRunSteps.j1]) ?_
  refine ev_ite_neg (by simp) (ev_bind m1 (ev_bind m2 (ev_bind h1 (ev_ite_neg (by omega) (ev_bind h2 (ev_ite_neg (by omega) (ev_ite_pos rfl ?_)))))))
  refine ev_bind hI (ev_bind hT (ev_bind hi (ev_bind ex (ev_ite_pos rfl (ev_bind ey (ev_ite_pos rfl ?_))))))
  refine Ev.step (fun k => by rw [laws_FnExactRunSteps.j2]) ?_
  exact ev_ite_neg (by simp) (ev_bind h1 (ev_ite_neg (by omega) (ev_bind h2 (ev_ite_neg (by omega) (ev_ite_pos rfl (ev_some fun _ => rfl))))))

end Go.Proofs.Ytmhmemiombcmnaa.Pure
