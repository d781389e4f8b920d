/- The law FnExactPiecesOf: the program's function tells what the reference tells, for all arguments; here: of the two as plain functions of numbers and lists. -/
import Derived.Test.YtmhmemiombcmnaaQFnExactPiecesOf
namespace Go.Proofs.Ytmhmemiombcmnaa.Pure
open Go.RowKit Go.Proofs.Ytmhmemiombcmnaa.PFnExactPiecesOf Go.Proofs.YtmhmemiombcmnaaW.PrintWords Go.Proofs.YtmhmemiombcmnaaW.PrintLast Go.Proofs.YtmhmemiombcmnaaW.PrintMore
set_option linter.unusedVariables false
set_option linter.unusedSimpArgs false
set_option linter.unnecessarySimpa false

theorem w64 {i : Int} (h0 : -9223372036854775808 ≤ i) (h1 : i ≤ 9223372036854775807) : wrap64 i = i := by
  unfold wrap64
  omega

theorem rdn (l : List Int) (i : Nat) : rd l (i : Int) = l.getD i 0 := by simp [rd]

/-- A round of a loop, then what it comes to. -/
theorem ev_step {α : Type} {g f : Nat → Option α} {r : α} (k : Ev f r) (h : ∀ k, g (k + 1) = f k) : Ev g r := Ev.step h k
theorem ev_some {α : Type} {g : Nat → Option α} {r : α} (h : ∀ k, g k = some r) : Ev g r := ⟨0, fun k _ => h k⟩
theorem ev_stop {α : Type} {g : Nat → Option α} {r : α} (h : ∀ k, g (k + 1) = some r) : Ev g r := Ev.step h (Ev.now r)
theorem ev_bind {α β : Type} {g : Nat → Option α} {f : Nat → α → Option β} {a : α} {r : β} (h : Ev g a) (k : Ev (fun n => f n a) r) : Ev (fun n => (g n).bind (f n)) r := Ev.bind h k
theorem ev_some_bind {α β : Type} {g : Option α} {f : Nat → α → Option β} {a : α} {r : β} (h : g = some a) (k : Ev (fun n => f n a) r) : Ev (fun n => g.bind (f n)) r := by
  subst h
  exact k
theorem ev_ite_pos {α : Type} {c : Prop} [Decidable c] {g f : Nat → Option α} {r : α} (hc : c) (h : Ev g r) : Ev (fun n => if c then g n else f n) r := Ev.congr (fun _ => if_pos hc) h
theorem ev_ite_neg {α : Type} {c : Prop} [Decidable c] {g f : Nat → Option α} {r : α} (hc : ¬ c) (h : Ev f r) : Ev (fun n => if c then g n else f n) r := Ev.congr (fun _ => if_neg hc) h

theorem within_tells (a b c : Int) : impl_within.f a b c = some (decide (b ≤ a) && decide (a ≤ c)) := by
  unfold impl_within.f
  by_cases h : a ≥ b
  · rw [if_pos h]; simp [show b ≤ a from h]
  · rw [if_neg h]; simp [show ¬ b ≤ a from h]

theorem sin_tells (a b c : Int) : spec_l1In.f a b c = some (decide (b ≤ a) && decide (a ≤ c)) := by
  unfold spec_l1In.f
  by_cases h : a ≥ b
  · rw [if_pos h]; simp [show b ≤ a from h]
  · rw [if_neg h]; simp [show ¬ b ≤ a from h]

def inB (a b x : Int) : Bool := decide (a ≤ x) && decide (x ≤ b)
theorem drop_at (l : List Int) (i : Nat) (h : i < l.length) : l.drop i = l.getD i 0 :: l.drop (i + 1) := by
  rw [List.drop_eq_getElem_cons h]
  simp [List.getD, List.getElem?_eq_getElem h]
/-- What a search for a fault comes to, round by round. -/
theorem all_ends {F : Nat → Nat → Option Bool} {p : Nat → Bool} {r : Bool} {n : Nat} (stop : Ev (fun k => F k n) r) (go : ∀ i, i < n → p i = true → ∀ q, Ev (fun k => F k (i + 1)) q → Ev (fun k => F k i) q) (no : ∀ i, i < n → p i = false → Ev (fun k => F k i) false) :
    ∀ (d i : Nat), i + d = n → Ev (fun k => F k i) ((List.range' i d).all p && r)
  | 0, i, h => by
    obtain rfl : i = n := by omega
    simpa using stop
  | d + 1, i, h => by
    have ih := all_ends stop go no d (i + 1) (by omega)
    rw [List.range'_succ, List.all_cons, Bool.and_assoc]
    cases hp : p i with
    | true => simpa using go i (by omega) hp _ ih
    | false => simpa using no i (by omega) hp
theorem all_from {F : Nat → Nat → Option Bool} {p : Nat → Bool} {r : Bool} {n : Nat} (stop : Ev (fun k => F k n) r) (go : ∀ i, i < n → p i = true → ∀ q, Ev (fun k => F k (i + 1)) q → Ev (fun k => F k i) q) (no : ∀ i, i < n → p i = false → Ev (fun k => F k i) false) :
    Ev (fun k => F k 0) ((List.range n).all p && r) := by
  rw [List.range_eq_range']
  exact all_ends stop go no n 0 (by omega)
theorem next (i : Nat) (h : i < 4611686018427387904) : wrap64 ((i : Int) + 1) = ((i + 1 : Nat) : Int) := by
  rw [w64 (by omega) (by omega)]
  omega

def convStep (x : S94) : S92 := ⟨x.f0, x.f1, x.f2, x.f3, x.f4⟩
theorem toStep_l (l : List S94) (hl : l.length ≤ 4611686018427387903) : ∀ (d i : Nat) (m : List S92), m.length = l.length → i + d = l.length → m.take i = (l.map convStep).take i → Ev (fun k => laws_toStepS.l0 k l m (i : Int)) (l.map convStep)
  | 0, i, m, hm, h, ht => ev_stop fun k => by
    rw [laws_toStepS.l0, if_neg (by omega)]
    rw [List.take_of_length_le (by omega), List.take_of_length_le (by simp; omega)] at ht
    rw [ht]
  | d + 1, i, m, hm, h, ht => by
    refine ev_step (toStep_l l hl d (i + 1) (m.set i (convStep (l.getD i z94))) (by simpa using hm) (by omega) ?_) fun k => by
      rw [laws_toStepS.l0, if_pos (by omega), if_pos (by omega)]
      unfold laws_toStep.f
      rw [Option.bind_some, if_pos (by omega), next i (by omega)]
      rfl
    rw [List.take_succ_eq_append_getElem (by simp; omega), List.take_succ_eq_append_getElem (by simp; omega), List.take_set_of_le (Nat.le_refl i), ht]
    simp [List.getD, List.getElem?_eq_getElem (show i < l.length by omega)]
theorem toStep_tells (l : List S94) (hl : l.length ≤ 1048576) : Ev (fun k => laws_toStepS.f k l) (l.map convStep) := by
  refine Ev.congr (g := fun k => laws_toStepS.f k l) (fun k => ?_) (toStep_l l (by omega) l.length 0 (List.replicate l.length z92) (by simp) (by omega) (by simp))
  unfold laws_toStepS.f
  rw [if_pos (by omega), if_pos (by omega), Int.toNat_natCast]
  rfl
theorem eqStep_l (l : List S92) (hl : l.length ≤ 4611686018427387903) : ∀ (d i : Nat), i + d = l.length → Ev (fun k => laws_eqStepS.l0 k l l (i : Int)) true
  | 0, i, h => ev_stop fun k => by
    rw [laws_eqStepS.l0, if_neg (by omega)]
  | d + 1, i, h => by
    refine ev_step (eqStep_l l hl d (i + 1) (by omega)) fun k => by
      rw [laws_eqStepS.l0, if_pos (by omega), if_pos (by omega), if_pos (by omega)]
      unfold laws_eqStep.f
      simp [next i (by omega)]
theorem eqStep_tells (l : List S92) (hl : l.length ≤ 4611686018427387903) : Ev (fun k => laws_eqStepS.f k l l) true := by
  refine Ev.congr (g := fun k => laws_eqStepS.f k l l) (fun k => ?_) (eqStep_l l hl l.length 0 (by omega))
  unfold laws_eqStepS.f
  rw [if_pos rfl]
  rfl

def stepOk (s : S92) (i : Int) : Bool :=
  (inB 0 2 s.f1 && inB 0 3 s.f2) && (if s.f0 = 1 then (decide (s.f3 = 0) && decide (s.f4 = 0)) else if s.f0 = 2 then (decide (s.f2 = 0) && (inB 0 (wrap64 (i - 1)) s.f3 && inB (-99) 99 s.f4)) else if s.f0 = 3 then (inB 0 (wrap64 (i - 1)) s.f3 && decide (s.f4 = 0)) else false)
def stepsB (l : List S92) : Bool := (List.range l.length).all (fun i => stepOk (rd_T92 l i) i) && decide (l.length ≤ 10)
theorem isStep_tells (k : Nat) (s : S92) (i : Int) : impl_isStep.f (k + 1) s.f0 s.f1 s.f2 s.f3 s.f4 i = some (stepOk s i) := by
  unfold impl_isStep.f stepOk
  simp only [within_tells, Option.bind_some, impl_isStep.j0]
  unfold inB
  cases (decide (0 ≤ s.f1) && decide (s.f1 ≤ 2)) with
  | false => simp
  | true =>
    cases (decide (0 ≤ s.f2) && decide (s.f2 ≤ 3)) with
    | false => simp
    | true =>
      by_cases h1 : s.f0 = 1
      · by_cases h2 : s.f3 = 0 <;> simp [h1, h2] <;> rfl
      · by_cases h2 : s.f0 = 2
        · by_cases h3 : s.f2 = 0
          · cases h4 : (decide (0 ≤ s.f3) && decide (s.f3 ≤ wrap64 (i - 1))) <;> simp [h1, h2, h3, h4]
          · simp [h1, h2, h3]
        · by_cases h3 : s.f0 = 3
          · cases h4 : (decide (0 ≤ s.f3) && decide (s.f3 ≤ wrap64 (i - 1))) <;> simp [h1, h2, h3, h4] <;> rfl
          · simp [h1, h2, h3]
theorem goodsteps_tells (l : List S92) (hl : l.length ≤ 1048576) : Ev (fun k => impl_GoodSteps.f k l) (stepsB l) := by
  have round : ∀ (i : Nat), i < l.length → ∀ q, Ev (fun k => if stepOk (rd_T92 l i) i = true then impl_GoodSteps.l0 k l l (l.length : Int) ((i + 1 : Nat) : Int) else some false) q → Ev (fun k => impl_GoodSteps.l0 k l l (l.length : Int) (i : Int)) q := by
    intro i hi q hq
    refine Ev.step (f := fun k => (impl_isStep.f k (rd_T92 l i).f0 (rd_T92 l i).f1 (rd_T92 l i).f2 (rd_T92 l i).f3 (rd_T92 l i).f4 i).bind fun t => if t = true then impl_GoodSteps.l0 k l l (l.length : Int) ((i + 1 : Nat) : Int) else some false) (fun k => ?_) ?_
    · rw [impl_GoodSteps.l0, if_pos (by omega), if_pos (by omega), if_pos (by omega), next i (by omega)]
    · exact ev_bind (Ev.step (fun k => isStep_tells k _ _) (Ev.now _)) hq
  refine all_from (F := fun k i => impl_GoodSteps.l0 k l l (l.length : Int) (i : Int)) (ev_stop fun k => ?_) (fun i hi hp q hq => round i hi q ?_) (fun i hi hp => round i hi _ ?_)
  · rw [impl_GoodSteps.l0, if_neg (by omega)]
    congr 1
    exact decide_eq_decide.2 (by omega)
  · exact ev_ite_pos hp hq
  · exact ev_ite_neg (by simp [hp]) (ev_some fun _ => rfl)
theorem sgood_j (k : Nat) (l x6 : List S92) (n i : Int) (s : S92) : spec_GoodSteps.j1 (k + 1) l i x6 n i (!(inB 0 2 s.f1 && inB 0 3 s.f2 && inB (-99) 99 s.f4)) s.f0 s.f1 s.f2 s.f3 s.f4 = if stepOk s i = true then spec_GoodSteps.l0 k l x6 n (wrap64 (i + 1)) else some false := by
  rw [spec_GoodSteps.j1]
  unfold stepOk
  rw [sin_tells, Option.bind_some]
  change (if (!(inB 0 2 s.f1 && inB 0 3 s.f2 && inB (-99) 99 s.f4)) = true then _ else if s.f0 = 1 then _ else if s.f0 = 2 then if inB 0 (wrap64 (i - 1)) s.f3 = true then _ else _ else if s.f0 = 3 then if inB 0 (wrap64 (i - 1)) s.f3 = true then _ else _ else _) = _
  have h0 : inB (-99) 99 0 = true := by decide
  cases inB 0 2 s.f1 <;> cases inB 0 3 s.f2 <;> try (simp; done)
  by_cases h1 : s.f0 = 1
  · by_cases h4 : s.f4 = 0
    · by_cases h3 : s.f3 = 0 <;> simp [h1, h3, h4, h0]
    · cases inB (-99) 99 s.f4 <;> simp [h1, h4]
  · by_cases h2 : s.f0 = 2
    · cases inB (-99) 99 s.f4 <;> cases inB 0 (wrap64 (i - 1)) s.f3 <;> by_cases h3 : s.f2 = 0 <;> simp [h1, h2, h3]
    · by_cases h3 : s.f0 = 3
      · by_cases h4 : s.f4 = 0
        · cases inB 0 (wrap64 (i - 1)) s.f3 <;> simp [h1, h2, h3, h4, h0]
        · cases inB (-99) 99 s.f4 <;> simp [h1, h2, h3, h4]
      · simp [h1, h2, h3]
theorem sgoodsteps_tells (l : List S92) (hl : l.length ≤ 1048576) : Ev (fun k => spec_GoodSteps.f k l) (stepsB l) := by
  have round : ∀ (i : Nat), i < l.length → ∀ q, Ev (fun k => if stepOk (rd_T92 l i) i = true then spec_GoodSteps.l0 k l l (l.length : Int) ((i + 1 : Nat) : Int) else some false) q → Ev (fun k => spec_GoodSteps.l0 k l l (l.length : Int) (i : Int)) q := by
    intro i hi q hq
    generalize hs : rd_T92 l i = s at hq
    refine Ev.step (f := fun k => spec_GoodSteps.j1 k l i l (l.length : Int) i (!(inB 0 2 s.f1 && inB 0 3 s.f2 && inB (-99) 99 s.f4)) s.f0 s.f1 s.f2 s.f3 s.f4) (fun k => ?_) (Ev.step (fun k => by rw [sgood_j, next i (by omega)]) hq)
    rw [spec_GoodSteps.l0, if_pos (by omega), if_pos (by omega), if_pos (by omega), hs]
    simp only [sin_tells, Option.bind_some]
    change (if inB 0 2 s.f1 = true then if inB 0 3 s.f2 = true then spec_GoodSteps.j1 _ _ _ _ _ _ (!(inB (-99) 99 s.f4)) _ _ _ _ _ else _ else _) = _
    cases inB 0 2 s.f1 <;> cases inB 0 3 s.f2 <;> simp
  refine all_from (F := fun k i => spec_GoodSteps.l0 k l l (l.length : Int) (i : Int)) (ev_stop fun k => ?_) (fun i hi hp q hq => round i hi q ?_) (fun i hi hp => round i hi _ ?_)
  · rw [spec_GoodSteps.l0, if_neg (by omega)]
    congr 1
    exact decide_eq_decide.2 (by omega)
  · exact ev_ite_pos hp hq
  · exact ev_ite_neg (by simp [hp]) (ev_some fun _ => rfl)
theorem stepsB_ok {l : List S92} (h : stepsB l = true) : (∀ i, i < l.length → stepOk (rd_T92 l i) i = true) ∧ l.length ≤ 10 := by
  unfold stepsB at h
  simp only [Bool.and_eq_true, List.all_eq_true, List.mem_range, decide_eq_true_eq] at h
  exact h

theorem szstep (l : List S94) (hl : l.length ≤ maxLen) : laws_szStepS.f l 1048576 = some (if 1048576 < (l.length : Int) then -1 else 1048576 - (l.length : Int)) := by
  have hm : maxLen ≤ 9223372036854775807 := by decide
  unfold laws_szStepS.f
  rw [w64 (by omega) (by omega)]
  split <;> split <;> first | rfl | omega

/-- The rising numbers from m on. -/
def upFrom (m : Int) : Nat → List Int
  | 0 => []
  | n + 1 => m :: upFrom (m + 1) n
theorem upFrom_len (m : Int) : ∀ n, (upFrom m n).length = n
  | 0 => rfl
  | n + 1 => by rw [upFrom, List.length_cons, upFrom_len (m + 1) n]
theorem take_set_succ (l : List Int) (i : Nat) (m : Int) (h : i < l.length) : (l.set i m).take (i + 1) = l.take i ++ [m] := by
  rw [List.take_succ_eq_append_getElem (by simpa using h), List.take_set_of_le (Nat.le_refl i)]
  simp
theorem markInt_l : ∀ (d i : Nat) (l : List Int) (m : Int), i + d = l.length → 0 ≤ m → m + d ≤ 4611686018427387903 → l.length ≤ 4611686018427387903 → Ev (fun k => laws_markIntS.l0 k l m (i : Int)) (m + d, l.take i ++ upFrom m d)
  | 0, i, l, m, h, _, _, _ => ev_stop fun k => by
    rw [laws_markIntS.l0, if_neg (by omega), List.take_of_length_le (by omega)]
    simp [upFrom]
  | d + 1, i, l, m, h, hm, hb, hl => by
    have ih := markInt_l d (i + 1) (l.set i m) (m + 1) (by simpa using by omega) (by omega) (by omega) (by simpa using hl)
    rw [take_set_succ l i m (by omega), List.append_assoc] at ih
    have e : m + 1 + (d : Int) = m + ((d + 1 : Nat) : Int) := by omega
    rw [e] at ih
    exact ev_step ih fun k => by rw [laws_markIntS.l0, if_pos (by omega), if_pos (by omega), w64 (by omega) (by omega), next i (by omega), Int.toNat_natCast]
theorem markInt_tells (l : List Int) (m : Int) (hm : 0 ≤ m) (hb : m + l.length ≤ 4611686018427387903) : Ev (fun k => laws_markIntS.f k l m) (m + l.length, upFrom m l.length) := by
  have h := markInt_l l.length 0 l m (by omega) hm hb (by omega)
  rw [List.take_zero, List.nil_append] at h
  exact h
theorem heldInt_l (l : List Int) (hl : l.length ≤ 4611686018427387903) : ∀ (d i : Nat) (m : Int), i + d = l.length → l.drop i = upFrom m d → 0 ≤ m → m + d ≤ 4611686018427387903 → Ev (fun k => laws_heldIntS.l0 k l m (i : Int)) (m + d)
  | 0, i, m, h, _, _, _ => ev_stop fun k => by
    rw [laws_heldIntS.l0, if_neg (by omega)]
    simp
  | d + 1, i, m, h, he, hm, hb => by
    rw [drop_at l i (by omega), upFrom] at he
    injection he with e1 e2
    have ih := heldInt_l l hl d (i + 1) (m + 1) (by omega) e2 (by omega) (by omega)
    have e : m + 1 + (d : Int) = m + ((d + 1 : Nat) : Int) := by omega
    rw [e] at ih
    exact ev_step ih fun k => by rw [laws_heldIntS.l0, if_pos (by omega), if_pos (by omega), rdn, if_pos e1, w64 (by omega) (by omega), next i (by omega)]
theorem heldInt_tells (m : Int) (n : Nat) (hm : 0 ≤ m) (hb : m + n ≤ 4611686018427387903) : Ev (fun k => laws_heldIntS.f k (upFrom m n) m) (m + n) := by
  have h := heldInt_l (upFrom m n) (by rw [upFrom_len]; omega) n 0 m (by rw [upFrom_len]; omega) (by simp) hm hb
  exact h

theorem drop_r (l : List (List Int)) (i : Nat) (h : i < l.length) : l.drop i = l.getD i [] :: l.drop (i + 1) := by
  rw [List.drop_eq_getElem_cons h]
  simp [List.getD, List.getElem?_eq_getElem h]
theorem rdR (l : List (List Int)) (i : Nat) : rd_L1 l (i : Int) = l.getD i [] := by simp [rd_L1]
/-- The weight of a row of rows: each row and each number counts one. -/
def weigh (l : List (List Int)) : Nat := l.length + (l.map List.length).sum
theorem row_le {l : List (List Int)} {x : List Int} (h : x ∈ l) : x.length ≤ (l.map List.length).sum := by
  induction l with
  | nil => simp at h
  | cons a l ih =>
    rw [List.map_cons, List.sum_cons]
    rcases List.mem_cons.1 h with e | e
    · subst e
      omega
    · have := ih e
      omega
theorem getR_mem (l : List (List Int)) (i : Nat) (h : i < l.length) : l.getD i [] ∈ l := by
  have := List.getElem_mem h
  simpa [List.getD, List.getElem?_eq_getElem h] using this

/-- A row of rows of the rising numbers from m on, of the same lengths. -/
def upRows (m : Int) : List (List Int) → List (List Int)
  | [] => []
  | r :: l => upFrom m r.length :: upRows (m + r.length) l
theorem upRows_len (m : Int) : ∀ l, (upRows m l).length = l.length
  | [] => rfl
  | r :: l => by rw [upRows, List.length_cons, upRows_len (m + r.length) l, List.length_cons]
theorem take_set_row (l : List (List Int)) (i : Nat) (m : List Int) (h : i < l.length) : (l.set i m).take (i + 1) = l.take i ++ [m] := by
  rw [List.take_succ_eq_append_getElem (by simpa using h), List.take_set_of_le (Nat.le_refl i)]
  simp
theorem markss_l : ∀ (d i : Nat) (l : List (List Int)) (m : Int), i + d = l.length → l.length ≤ 4611686018427387903 → 0 ≤ m → m + ((l.drop i).map List.length).sum ≤ 1000000000 → Ev (fun k => laws_markIntSS.l0 k l m (i : Int)) (m + ((l.drop i).map List.length).sum, l.take i ++ upRows m (l.drop i))
  | 0, i, l, m, h, _, _, _ => ev_stop fun k => by
    rw [laws_markIntSS.l0, if_neg (by omega), List.drop_of_length_le (by omega), List.take_of_length_le (by omega)]
    simp [upRows]
  | d + 1, i, l, m, h, hl, hm, hb => by
    rw [drop_r l i (by omega), List.map_cons, List.sum_cons] at hb
    rw [drop_r l i (by omega), List.map_cons, List.sum_cons, upRows]
    have hset : (l.set i (upFrom m (l.getD i []).length)).drop (i + 1) = l.drop (i + 1) := List.drop_set_of_lt (by omega)
    have ih := markss_l d (i + 1) (l.set i (upFrom m (l.getD i []).length)) (m + (l.getD i []).length) (by rw [List.length_set]; omega) (by rw [List.length_set]; omega) (by omega) (by rw [hset]; omega)
    rw [hset, take_set_row l i _ (by omega), List.append_assoc] at ih
    refine Ev.step (f := fun k => (laws_markIntS.f k (l.getD i []) m).bind fun bt => laws_markIntSS.l0 k (l.set i bt.2) bt.1 ((i + 1 : Nat) : Int)) (fun k => ?_) (ev_bind (markInt_tells (l.getD i []) m hm (by omega)) ?_)
    · rw [laws_markIntSS.l0, if_pos (by omega), if_pos (by omega), Int.toNat_natCast, next i (by omega)]
    · have e : m + ((l.getD i []).length : Int) + (((l.drop (i + 1)).map List.length).sum : Int) = m + (((l.getD i []).length + ((l.drop (i + 1)).map List.length).sum : Nat) : Int) := by omega
      rw [e] at ih
      exact ih
theorem markss_tells (l : List (List Int)) (m : Int) (hl : weigh l ≤ 1048576) (hm : 0 ≤ m) (hb : m ≤ 900000000) : Ev (fun k => laws_markIntSS.f k l m) (m + ((l.map List.length).sum : Nat), upRows m l) := by
  unfold weigh at hl
  have h := markss_l l.length 0 l m (by omega) (by omega) hm (by rw [List.drop_zero]; omega)
  rw [List.drop_zero, List.take_zero, List.nil_append] at h
  exact h

theorem markStep_l : ∀ (d i : Nat) (l : List S92) (m : Int), i + d = l.length → l.length ≤ 4611686018427387903 → 0 ≤ m → m + 5 * d ≤ 4611686018427387903 → ∃ r, Ev (fun k => laws_markStepS.l0 k l m (i : Int)) (m + 5 * d, r)
  | 0, i, l, m, h, _, _, _ => ⟨l, ev_stop fun k => by
    rw [laws_markStepS.l0, if_neg (by omega)]
    simp⟩
  | d + 1, i, l, m, h, hl, hm, hb => by
    have hs : ∃ l' : List S92, l'.length = l.length ∧ ∀ k, laws_markStepS.l0 (k + 1) l m (i : Int) = laws_markStepS.l0 k l' (m + 5) ((i + 1 : Nat) : Int) := by
      apply Exists.intro
      apply And.intro
      rotate_left
      · intro k
        rw [laws_markStepS.l0, if_pos (by omega), if_pos (by omega)]
        simp only [Option.bind_some]
        rw [w64 (i := m + 1) (by omega) (by omega), w64 (i := m + 1 + 1) (by omega) (by omega), w64 (i := m + 1 + 1 + 1) (by omega) (by omega), w64 (i := m + 1 + 1 + 1 + 1) (by omega) (by omega), w64 (i := m + 1 + 1 + 1 + 1 + 1) (by omega) (by omega), next i (by omega), show m + 1 + 1 + 1 + 1 + 1 = m + 5 by omega]
      · simp
    obtain ⟨l', hl', hk⟩ := hs
    obtain ⟨r, hr⟩ := markStep_l d (i + 1) l' (m + 5) (by omega) (by omega) (by omega) (by omega)
    have e : m + 5 + 5 * (d : Int) = m + 5 * ((d + 1 : Nat) : Int) := by omega
    rw [e] at hr
    exact ⟨r, ev_step hr hk⟩
theorem markStep_tells (l : List S92) (m : Int) (hm : 0 ≤ m) (hb : m ≤ 1000000000) (hl : l.length ≤ 1048576) : ∃ r, Ev (fun k => laws_markStepS.f k l m) (m + 5 * l.length, r) := markStep_l l.length 0 l m (by omega) (by omega) (by omega) (by omega)

theorem eqints_l (l : List Int) (hl : l.length ≤ 4611686018427387904) : ∀ (d i : Nat), i + d = l.length → Ev (fun k => laws_eqIntS.l0 k l l (i : Int)) true
  | 0, i, h => ev_stop fun k => by
    rw [laws_eqIntS.l0, if_neg (by omega)]
  | d + 1, i, h => by
    have h1 : wrap64 ((i : Int) + 1) = ((i + 1 : Nat) : Int) := by rw [w64 (by omega) (by omega)]; omega
    refine ev_step (eqints_l l hl d (i + 1) (by omega)) fun k => by
      rw [laws_eqIntS.l0, if_pos (by omega), if_pos (by omega), if_pos (by omega), if_pos rfl, h1]
theorem eqints_tells (l : List Int) (hl : l.length ≤ 4611686018427387904) : Ev (fun k => laws_eqIntS.f k l l) true := by
  refine Ev.congr (g := fun k => laws_eqIntS.f k l l) (fun k => ?_) (eqints_l l hl l.length 0 (by omega))
  unfold laws_eqIntS.f
  rw [if_pos rfl]
  rfl

theorem eqss_l (l : List (List Int)) (hl : l.length ≤ 4611686018427387903) (hr : ∀ x ∈ l, x.length ≤ 4611686018427387903) : ∀ (d i : Nat), i + d = l.length → Ev (fun k => laws_eqIntSS.l0 k l l (i : Int)) true
  | 0, i, h => ev_stop fun k => by
    rw [laws_eqIntSS.l0, if_neg (by omega)]
  | d + 1, i, h => by
    have hw := hr _ (getR_mem l i (by omega))
    refine Ev.step (f := fun k => (laws_eqIntS.f k (l.getD i []) (l.getD i [])).bind fun t => if t = true then laws_eqIntSS.l0 k l l ((i + 1 : Nat) : Int) else some false) (fun k => ?_) (ev_bind (eqints_tells _ (by omega)) (ev_ite_pos rfl (eqss_l l hl hr d (i + 1) (by omega))))
    rw [laws_eqIntSS.l0, if_pos (by omega), if_pos (by omega), if_pos (by omega), rdR, next i (by omega)]
theorem eqss_tells (l : List (List Int)) (hl : l.length ≤ 4611686018427387903) (hr : ∀ x ∈ l, x.length ≤ 4611686018427387903) : Ev (fun k => laws_eqIntSS.f k l l) true := by
  refine Ev.congr (g := fun k => laws_eqIntSS.f k l l) (fun k => ?_) (eqss_l l hl hr l.length 0 (by omega))
  unfold laws_eqIntSS.f
  rw [if_pos rfl]
  rfl
theorem eqss_weigh (l : List (List Int)) (hl : weigh l ≤ 1048576) : Ev (fun k => laws_eqIntSS.f k l l) true := by
  unfold weigh at hl
  exact eqss_tells l (by omega) fun x hx => by have := row_le hx; omega

/-- What holds from some number of rounds on. -/
def Evs (P : Nat → Prop) : Prop := ∃ K, ∀ k, K ≤ k → P k
theorem Evs.and {P Q : Nat → Prop} (h : Evs P) (h2 : Evs Q) : Evs (fun k => P k ∧ Q k) := by
  obtain ⟨K, hK⟩ := h
  obtain ⟨L, hL⟩ := h2
  exact ⟨max K L, fun k hk => ⟨hK k (by omega), hL k (by omega)⟩⟩
theorem Evs.of {P : Prop} (h : P) : Evs (fun _ => P) := ⟨0, fun _ _ => h⟩
theorem Evs.ev {α : Type} {g : Nat → Option α} {r : α} (h : Ev g r) : Evs (fun k => g k = some r) := h
theorem Evs.now {P : Nat → Prop} (h : Evs P) : ∃ k, P k := by
  obtain ⟨K, hK⟩ := h
  exact ⟨K, hK K (Nat.le_refl _)⟩
theorem Evs.mono {P Q : Nat → Prop} (h : Evs P) (hq : ∀ k, P k → Q k) : Evs Q := by
  obtain ⟨K, hK⟩ := h
  exact ⟨K, fun k hk => hq k (hK k hk)⟩

theorem rows_sum : ∀ (l : List (List Int)) (n : Nat), (∀ r ∈ l, r.length ≤ n) → (l.map List.length).sum ≤ l.length * n
  | [], n, _ => by simp
  | r :: l, n, h => by
    have h1 := h r (by simp)
    have h2 := rows_sum l n fun x hx => h x (List.mem_cons_of_mem _ hx)
    rw [List.map_cons, List.sum_cons, List.length_cons, Nat.add_mul]
    omega
def pieceAt (l : List S92) (i : Nat) (x : List (List Int)) : List (List Int) := x.set (rd_T92 l i).f1.toNat (rd_L1 x (rd_T92 l i).f1 ++ [(i : Int)])
def piecesGo (l : List S92) : Nat → Nat → List (List Int) → List (List Int)
  | 0, _, x => x
  | d + 1, i, x => piecesGo l d (i + 1) (pieceAt l i x)
theorem pieceAt_len (l : List S92) (i : Nat) (x : List (List Int)) (h : ∀ r ∈ x, r.length ≤ i) : (pieceAt l i x).length = x.length ∧ ∀ r ∈ pieceAt l i x, r.length ≤ i + 1 := by
  refine ⟨by simp [pieceAt], fun r hr => ?_⟩
  unfold pieceAt at hr
  rcases List.mem_or_eq_of_mem_set hr with e | e
  · have := h r e
    omega
  · rw [e, List.length_append, List.length_singleton]
    have hx : (rd_L1 x (rd_T92 l i).f1).length ≤ i := by
      unfold rd_L1
      rw [List.getD]
      cases hq : x[(rd_T92 l i).f1.toNat]? with
      | none => simp
      | some v => exact h v (List.mem_of_getElem? hq)
    omega
theorem piecesGo_len (l : List S92) : ∀ (d i : Nat) (x : List (List Int)), (∀ r ∈ x, r.length ≤ i) → (piecesGo l d i x).length = x.length ∧ ∀ r ∈ piecesGo l d i x, r.length ≤ i + d
  | 0, i, x, h => ⟨rfl, h⟩
  | d + 1, i, x, h => by
    obtain ⟨a, b⟩ := pieceAt_len l i x h
    obtain ⟨a2, b2⟩ := piecesGo_len l d (i + 1) (pieceAt l i x) b
    refine ⟨a2.trans a, fun r hr => ?_⟩
    have := b2 r hr
    omega
theorem shard_ok {s : S92} {i : Int} (h : stepOk s i = true) : 0 ≤ s.f1 ∧ s.f1 < 3 := by
  unfold stepOk inB at h
  simp only [Bool.and_eq_true, decide_eq_true_eq] at h
  omega
theorem row_len (x : List (List Int)) (j : Int) (n : Nat) (h : ∀ r ∈ x, r.length ≤ n) : (rd_L1 x j).length ≤ n := by
  unfold rd_L1
  rw [List.getD]
  cases hq : x[j.toNat]? with
  | none => simp
  | some v => exact h v (List.mem_of_getElem? hq)
theorem pieces_both (l : List S92) (hl : l.length ≤ 1048576) (ok : ∀ i, i < l.length → stepOk (rd_T92 l i) i = true) : ∀ (d i : Nat) (x : List (List Int)), i + d = l.length → x.length = 3 → (∀ r ∈ x, r.length ≤ i) → Ev (fun k => spec_PiecesOf.l0 k x l (l.length : Int) (i : Int)) (piecesGo l d i x, true) ∧ Ev (fun k => impl_pieces.l0 k x l (l.length : Int) (i : Int)) (piecesGo l d i x)
  | 0, i, x, h, _, _ => ⟨ev_stop fun k => by
    rw [spec_PiecesOf.l0, if_neg (by omega)]
    rfl, ev_stop fun k => by
    rw [impl_pieces.l0, if_neg (by omega)]
    rfl⟩
  | d + 1, i, x, h, h3, hr => by
    obtain ⟨a, b⟩ := shard_ok (ok i (by omega))
    obtain ⟨c1, c2⟩ := pieceAt_len l i x hr
    obtain ⟨s1, s2⟩ := pieces_both l hl ok d (i + 1) (pieceAt l i x) (by omega) (c1.trans h3) c2
    have hlen := row_len x (rd_T92 l i).f1 i hr
    exact ⟨ev_step s1 fun k => by
      rw [spec_PiecesOf.l0, if_pos (by omega), if_pos (by omega), if_pos (by omega), if_pos a, if_pos (by omega), if_pos (by omega), next i (by omega)]
      rfl, ev_step s2 fun k => by
      rw [impl_pieces.l0, if_pos (by omega), if_pos (by omega), if_pos (by omega), if_pos a, if_pos (by omega), if_pos (by omega), next i (by omega)]
      rfl⟩
theorem pieces_same (l : List S92) (hl : l.length ≤ 1048576) : ∃ x : List (List Int) × Bool, Ev (fun k => spec_PiecesOf.f k l) x ∧ Ev (fun k => impl_PiecesOf.f k l) x ∧ weigh x.1 ≤ 1048576 := by
  cases h2 : stepsB l with
  | false =>
    refine ⟨([], false), ?_, ?_, by simp [weigh]⟩
    · unfold spec_PiecesOf.f
      exact ev_bind (sgoodsteps_tells l hl) (ev_ite_neg (by simp [h2]) (ev_some fun _ => rfl))
    · unfold impl_PiecesOf.f
      exact ev_bind (goodsteps_tells l hl) (ev_ite_neg (by simp [h2]) (ev_some fun _ => rfl))
  | true =>
    obtain ⟨ok, h10⟩ := stepsB_ok h2
    have hz : ∀ r ∈ List.replicate 3 ([] : List Int), r.length ≤ 0 := fun r hr => by
      rw [(List.mem_replicate.1 hr).2]
      simp
    obtain ⟨s1, s2⟩ := pieces_both l hl ok l.length 0 (List.replicate 3 []) (by omega) (by simp) hz
    obtain ⟨n1, n2⟩ := piecesGo_len l l.length 0 (List.replicate 3 []) hz
    refine ⟨(piecesGo l l.length 0 (List.replicate 3 []), true), ?_, ?_, ?_⟩
    · unfold spec_PiecesOf.f
      exact ev_bind (sgoodsteps_tells l hl) (ev_ite_pos h2 (ev_ite_pos (by omega) s1))
    · unfold impl_PiecesOf.f impl_pieces.f
      exact ev_bind (goodsteps_tells l hl) (ev_ite_pos h2 (ev_bind (ev_ite_pos (by omega) s2) (ev_some fun _ => rfl)))
    · have h := rows_sum _ (0 + l.length) n2
      simp only
      unfold weigh
      rw [n1, List.length_replicate] at h ⊢
      omega
theorem heldss_l : ∀ (d i : Nat) (l : List (List Int)) (z : List (List Int)) (m : Int), i + d = z.length → z.length ≤ 4611686018427387903 → z.drop i = upRows m l → 0 ≤ m → m + (l.map List.length).sum ≤ 1000000000 → Ev (fun k => laws_heldIntSS.l0 k z m (i : Int)) (m + ((l.map List.length).sum : Nat))
  | 0, i, l, z, m, h, hz, he, hm, hb => ev_stop fun k => by
    rw [laws_heldIntSS.l0, if_neg (by omega)]
    rw [List.drop_of_length_le (by omega)] at he
    cases l with
    | nil => simp
    | cons r l => simp [upRows] at he
  | d + 1, i, l, z, m, h, hz, he, hm, hb => by
    rw [drop_r z i (by omega)] at he
    cases l with
    | nil => simp [upRows] at he
    | cons r l =>
      rw [upRows] at he
      injection he with e1 e2
      rw [List.map_cons, List.sum_cons] at hb ⊢
      have ih := heldss_l d (i + 1) l z (m + r.length) (by omega) hz e2 (by omega) (by omega)
      refine Ev.step (f := fun k => (laws_heldIntS.f k (z.getD i []) m).bind fun t => if t < 0 then some (-1) else laws_heldIntSS.l0 k z t ((i + 1 : Nat) : Int)) (fun k => ?_) ?_
      · rw [laws_heldIntSS.l0, if_pos (by omega), if_pos (by omega), rdR, next i (by omega)]
      · rw [e1]
        refine ev_bind (heldInt_tells m r.length hm (by omega)) (ev_ite_neg (by omega) ?_)
        have e : m + (r.length : Int) + ((l.map List.length).sum : Nat) = m + ((r.length + (l.map List.length).sum : Nat) : Int) := by omega
        rw [e] at ih
        exact ih
theorem heldss_tells (l : List (List Int)) (m : Int) (hl : weigh l ≤ 1048576) (hm : 0 ≤ m) (hb : m ≤ 900000000) : Ev (fun k => laws_heldIntSS.f k (upRows m l) m) (m + ((l.map List.length).sum : Nat)) := by
  unfold weigh at hl
  exact heldss_l (upRows m l).length 0 l (upRows m l) m (by omega) (by rw [upRows_len]; omega) (by simp) hm (by omega)
theorem FnExactPiecesOf : laws_FnExactPiecesOf.Good := by
  intro l0 ⟨hm, _⟩
  unfold laws_FnExactPiecesOf.Pass
  have hsz := szstep l0 hm
  by_cases hg : 1048576 < (l0.length : Int)
  · rw [if_pos hg] at hsz
    exact ⟨0, -1, hsz, .inl (by omega)⟩
  rw [if_neg hg] at hsz
  have hT := toStep_tells l0 (by omega)
  have hl : (l0.map convStep).length ≤ 1048576 := by simp; omega
  generalize l0.map convStep = t at hT hl
  obtain ⟨⟨x, b⟩, hs, hi, hw⟩ := pieces_same t hl
  simp only at hw
  obtain ⟨r, hr⟩ := markStep_tells t 1 (by omega) (by omega) hl
  have m1 := markss_tells x 1 hw (by omega) (by omega)
  have h1 := heldss_tells x 1 hw (by omega) (by omega)
  exact (((Evs.ev hT).and ((Evs.ev hs).and ((Evs.ev hi).and ((Evs.ev (eqss_weigh x hw)).and ((Evs.ev (eqStep_tells t (by omega))).and ((Evs.ev hr).and ((Evs.ev m1).and (Evs.ev h1)))))))).mono fun k ⟨d1, d2, d3, d4, d5, d6, d7, d8⟩ => ⟨_, hsz, .inr ⟨by omega, t, x, b, _, _, _, _, d1, d2, d3, d4, d5, d6, d7, d8, by omega, by omega⟩⟩).now

end Go.Proofs.Ytmhmemiombcmnaa.Pure
