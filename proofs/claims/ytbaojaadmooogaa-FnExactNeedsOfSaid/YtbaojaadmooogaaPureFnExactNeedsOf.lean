/- The law FnExactNeedsOf: the program's function tells what the reference tells, for all arguments; here: of the two as plain functions of numbers and lists. -/
import Derived.Test.YtbaojaadmooogaaQFnExactNeedsOf
namespace Go.Proofs.Ytbaojaadmooogaa.Pure
open Go.RowKit Go.Proofs.Ytbaojaadmooogaa.PFnExactNeedsOf Go.Proofs.YtbaojaadmooogaaW.PrintWords Go.Proofs.YtbaojaadmooogaaW.PrintLast Go.Proofs.YtbaojaadmooogaaW.PrintMore
set_option linter.unusedVariables false
set_option linter.unusedSimpArgs false
set_option linter.unnecessarySimpa false

theorem w64 {i : Int} (h0 : -9223372036854775808 ≤ i) (h1 : i ≤ 9223372036854775807) : wrap64 i = i := by
  unfold wrap64
  omega

theorem rdn (l : List Int) (i : Nat) : rd l (i : Int) = l.getD i 0 := by simp [rd]

/-- A round of a loop, then what it comes to. -/
theorem ev_step {α : Type} {g f : Nat → Option α} {r : α} (k : Ev f r) (h : ∀ k, g (k + 1) = f k) : Ev g r := Ev.step h k
theorem ev_some {α : Type} {g : Nat → Option α} {r : α} (h : ∀ k, g k = some r) : Ev g r := ⟨0, fun k _ => h k⟩
theorem ev_stop {α : Type} {g : Nat → Option α} {r : α} (h : ∀ k, g (k + 1) = some r) : Ev g r := Ev.step h (Ev.now r)
theorem ev_bind {α β : Type} {g : Nat → Option α} {f : Nat → α → Option β} {a : α} {r : β} (h : Ev g a) (k : Ev (fun n => f n a) r) : Ev (fun n => (g n).bind (f n)) r := Ev.bind h k
theorem ev_some_bind {α β : Type} {g : Option α} {f : Nat → α → Option β} {a : α} {r : β} (h : g = some a) (k : Ev (fun n => f n a) r) : Ev (fun n => g.bind (f n)) r := by
  subst h
  exact k
theorem ev_ite_pos {α : Type} {c : Prop} [Decidable c] {g f : Nat → Option α} {r : α} (hc : c) (h : Ev g r) : Ev (fun n => if c then g n else f n) r := Ev.congr (fun _ => if_pos hc) h
theorem ev_ite_neg {α : Type} {c : Prop} [Decidable c] {g f : Nat → Option α} {r : α} (hc : ¬ c) (h : Ev f r) : Ev (fun n => if c then g n else f n) r := Ev.congr (fun _ => if_neg hc) h

theorem within_tells (a b c : Int) : impl_within.f a b c = some (decide (b ≤ a) && decide (a ≤ c)) := by
  unfold impl_within.f
  by_cases h : a ≥ b
  · rw [if_pos h]; simp [show b ≤ a from h]
  · rw [if_neg h]; simp [show ¬ b ≤ a from h]

theorem sin_tells (a b c : Int) : spec_l1In.f a b c = some (decide (b ≤ a) && decide (a ≤ c)) := by
  unfold spec_l1In.f
  by_cases h : a ≥ b
  · rw [if_pos h]; simp [show b ≤ a from h]
  · rw [if_neg h]; simp [show ¬ b ≤ a from h]

def inB (a b x : Int) : Bool := decide (a ≤ x) && decide (x ≤ b)
theorem drop_at (l : List Int) (i : Nat) (h : i < l.length) : l.drop i = l.getD i 0 :: l.drop (i + 1) := by
  rw [List.drop_eq_getElem_cons h]
  simp [List.getD, List.getElem?_eq_getElem h]
/-- What a search for a fault comes to, round by round. -/
theorem all_ends {F : Nat → Nat → Option Bool} {p : Nat → Bool} {r : Bool} {n : Nat} (stop : Ev (fun k => F k n) r) (go : ∀ i, i < n → p i = true → ∀ q, Ev (fun k => F k (i + 1)) q → Ev (fun k => F k i) q) (no : ∀ i, i < n → p i = false → Ev (fun k => F k i) false) :
    ∀ (d i : Nat), i + d = n → Ev (fun k => F k i) ((List.range' i d).all p && r)
  | 0, i, h => by
    obtain rfl : i = n := by omega
    simpa using stop
  | d + 1, i, h => by
    have ih := all_ends stop go no d (i + 1) (by omega)
    rw [List.range'_succ, List.all_cons, Bool.and_assoc]
    cases hp : p i with
    | true => simpa using go i (by omega) hp _ ih
    | false => simpa using no i (by omega) hp
theorem all_from {F : Nat → Nat → Option Bool} {p : Nat → Bool} {r : Bool} {n : Nat} (stop : Ev (fun k => F k n) r) (go : ∀ i, i < n → p i = true → ∀ q, Ev (fun k => F k (i + 1)) q → Ev (fun k => F k i) q) (no : ∀ i, i < n → p i = false → Ev (fun k => F k i) false) :
    Ev (fun k => F k 0) ((List.range n).all p && r) := by
  rw [List.range_eq_range']
  exact all_ends stop go no n 0 (by omega)
theorem next (i : Nat) (h : i < 4611686018427387904) : wrap64 ((i : Int) + 1) = ((i + 1 : Nat) : Int) := by
  rw [w64 (by omega) (by omega)]
  omega

def convStep (x : S100) : S98 := ⟨x.f0, x.f1, x.f2, x.f3, x.f4⟩
theorem toStep_l (l : List S100) (hl : l.length ≤ 4611686018427387903) : ∀ (d i : Nat) (m : List S98), m.length = l.length → i + d = l.length → m.take i = (l.map convStep).take i → Ev (fun k => laws_toStepS.l0 k l m (i : Int)) (l.map convStep)
  | 0, i, m, hm, h, ht => ev_stop fun k => by
    rw [laws_toStepS.l0, if_neg (by omega)]
    rw [List.take_of_length_le (by omega), List.take_of_length_le (by simp; omega)] at ht
    rw [ht]
  | d + 1, i, m, hm, h, ht => by
    refine ev_step (toStep_l l hl d (i + 1) (m.set i (convStep (l.getD i z100))) (by simpa using hm) (by omega) ?_) fun k => by
      rw [laws_toStepS.l0, if_pos (by omega), if_pos (by omega)]
      unfold laws_toStep.f
      rw [Option.bind_some, if_pos (by omega), next i (by omega)]
      rfl
    rw [List.take_succ_eq_append_getElem (by simp; omega), List.take_succ_eq_append_getElem (by simp; omega), List.take_set_of_le (Nat.le_refl i), ht]
    simp [List.getD, List.getElem?_eq_getElem (show i < l.length by omega)]
theorem toStep_tells (l : List S100) (hl : l.length ≤ 1048576) : Ev (fun k => laws_toStepS.f k l) (l.map convStep) := by
  refine Ev.congr (g := fun k => laws_toStepS.f k l) (fun k => ?_) (toStep_l l (by omega) l.length 0 (List.replicate l.length z98) (by simp) (by omega) (by simp))
  unfold laws_toStepS.f
  rw [if_pos (by omega), if_pos (by omega), Int.toNat_natCast]
  rfl
theorem eqStep_l (l : List S98) (hl : l.length ≤ 4611686018427387903) : ∀ (d i : Nat), i + d = l.length → Ev (fun k => laws_eqStepS.l0 k l l (i : Int)) true
  | 0, i, h => ev_stop fun k => by
    rw [laws_eqStepS.l0, if_neg (by omega)]
  | d + 1, i, h => by
    refine ev_step (eqStep_l l hl d (i + 1) (by omega)) fun k => by
      rw [laws_eqStepS.l0, if_pos (by omega), if_pos (by omega), if_pos (by omega)]
      unfold laws_eqStep.f
      simp [next i (by omega)]
theorem eqStep_tells (l : List S98) (hl : l.length ≤ 4611686018427387903) : Ev (fun k => laws_eqStepS.f k l l) true := by
  refine Ev.congr (g := fun k => laws_eqStepS.f k l l) (fun k => ?_) (eqStep_l l hl l.length 0 (by omega))
  unfold laws_eqStepS.f
  rw [if_pos rfl]
  rfl

def stepOk (s : S98) (i : Int) : Bool :=
  (inB 0 2 s.f1 && inB 0 3 s.f2) && (if s.f0 = 1 then (decide (s.f3 = 0) && decide (s.f4 = 0)) else if s.f0 = 2 then (decide (s.f2 = 0) && (inB 0 (wrap64 (i - 1)) s.f3 && inB (-99) 99 s.f4)) else if s.f0 = 3 then (inB 0 (wrap64 (i - 1)) s.f3 && decide (s.f4 = 0)) else false)
def stepsB (l : List S98) : Bool := (List.range l.length).all (fun i => stepOk (rd_T98 l i) i) && decide (l.length ≤ 10)
theorem isStep_tells (k : Nat) (s : S98) (i : Int) : impl_isStep.f (k + 1) s.f0 s.f1 s.f2 s.f3 s.f4 i = some (stepOk s i) := by
  unfold impl_isStep.f stepOk
  simp only [within_tells, Option.bind_some, impl_isStep.j0]
  unfold inB
  cases (decide (0 ≤ s.f1) && decide (s.f1 ≤ 2)) with
  | false => simp
  | true =>
    cases (decide (0 ≤ s.f2) && decide (s.f2 ≤ 3)) with
    | false => simp
    | true =>
      by_cases h1 : s.f0 = 1
      · by_cases h2 : s.f3 = 0 <;> simp [h1, h2] <;> rfl
      · by_cases h2 : s.f0 = 2
        · by_cases h3 : s.f2 = 0
          · cases h4 : (decide (0 ≤ s.f3) && decide (s.f3 ≤ wrap64 (i - 1))) <;> simp [h1, h2, h3, h4]
          · simp [h1, h2, h3]
        · by_cases h3 : s.f0 = 3
          · cases h4 : (decide (0 ≤ s.f3) && decide (s.f3 ≤ wrap64 (i - 1))) <;> simp [h1, h2, h3, h4] <;> rfl
          · simp [h1, h2, h3]
theorem goodsteps_tells (l : List S98) (hl : l.length ≤ 1048576) : Ev (fun k => impl_GoodSteps.f k l) (stepsB l) := by
  have round : ∀ (i : Nat), i < l.length → ∀ q, Ev (fun k => if stepOk (rd_T98 l i) i = true then impl_GoodSteps.l0 k l l (l.length : Int) ((i + 1 : Nat) : Int) else some false) q → Ev (fun k => impl_GoodSteps.l0 k l l (l.length : Int) (i : Int)) q := by
    intro i hi q hq
    refine Ev.step (f := fun k => (impl_isStep.f k (rd_T98 l i).f0 (rd_T98 l i).f1 (rd_T98 l i).f2 (rd_T98 l i).f3 (rd_T98 l i).f4 i).bind fun t => if t = true then impl_GoodSteps.l0 k l l (l.length : Int) ((i + 1 : Nat) : Int) else some false) (fun k => ?_) ?_
    · rw [impl_GoodSteps.l0, if_pos (by omega), if_pos (by omega), if_pos (by omega), next i (by omega)]
    · exact ev_bind (Ev.step (fun k => isStep_tells k _ _) (Ev.now _)) hq
  refine all_from (F := fun k i => impl_GoodSteps.l0 k l l (l.length : Int) (i : Int)) (ev_stop fun k => ?_) (fun i hi hp q hq => round i hi q ?_) (fun i hi hp => round i hi _ ?_)
  · rw [impl_GoodSteps.l0, if_neg (by omega)]
    congr 1
    exact decide_eq_decide.2 (by omega)
  · exact ev_ite_pos hp hq
  · exact ev_ite_neg (by simp [hp]) (ev_some fun _ => rfl)
theorem sgood_j (k : Nat) (l x6 : List S98) (n i : Int) (s : S98) : spec_GoodSteps.j1 (k + 1) l i x6 n i (!(inB 0 2 s.f1 && inB 0 3 s.f2 && inB (-99) 99 s.f4)) s.f0 s.f1 s.f2 s.f3 s.f4 = if stepOk s i = true then spec_GoodSteps.l0 k l x6 n (wrap64 (i + 1)) else some false := by
  rw [spec_GoodSteps.j1]
  unfold stepOk
  rw [sin_tells, Option.bind_some]
  change (if (!(inB 0 2 s.f1 && inB 0 3 s.f2 && inB (-99) 99 s.f4)) = true then _ else if s.f0 = 1 then _ else if s.f0 = 2 then if inB 0 (wrap64 (i - 1)) s.f3 = true then _ else _ else if s.f0 = 3 then if inB 0 (wrap64 (i - 1)) s.f3 = true then _ else _ else _) = _
  have h0 : inB (-99) 99 0 = true := by decide
  cases inB 0 2 s.f1 <;> cases inB 0 3 s.f2 <;> try (simp; done)
  by_cases h1 : s.f0 = 1
  · by_cases h4 : s.f4 = 0
    · by_cases h3 : s.f3 = 0 <;> simp [h1, h3, h4, h0]
    · cases inB (-99) 99 s.f4 <;> simp [h1, h4]
  · by_cases h2 : s.f0 = 2
    · cases inB (-99) 99 s.f4 <;> cases inB 0 (wrap64 (i - 1)) s.f3 <;> by_cases h3 : s.f2 = 0 <;> simp [h1, h2, h3]
    · by_cases h3 : s.f0 = 3
      · by_cases h4 : s.f4 = 0
        · cases inB 0 (wrap64 (i - 1)) s.f3 <;> simp [h1, h2, h3, h4, h0]
        · cases inB (-99) 99 s.f4 <;> simp [h1, h2, h3, h4]
      · simp [h1, h2, h3]
theorem sgoodsteps_tells (l : List S98) (hl : l.length ≤ 1048576) : Ev (fun k => spec_GoodSteps.f k l) (stepsB l) := by
  have round : ∀ (i : Nat), i < l.length → ∀ q, Ev (fun k => if stepOk (rd_T98 l i) i = true then spec_GoodSteps.l0 k l l (l.length : Int) ((i + 1 : Nat) : Int) else some false) q → Ev (fun k => spec_GoodSteps.l0 k l l (l.length : Int) (i : Int)) q := by
    intro i hi q hq
    generalize hs : rd_T98 l i = s at hq
    refine Ev.step (f := fun k => spec_GoodSteps.j1 k l i l (l.length : Int) i (!(inB 0 2 s.f1 && inB 0 3 s.f2 && inB (-99) 99 s.f4)) s.f0 s.f1 s.f2 s.f3 s.f4) (fun k => ?_) (Ev.step (fun k => by rw [sgood_j, next i (by omega)]) hq)
    rw [spec_GoodSteps.l0, if_pos (by omega), if_pos (by omega), if_pos (by omega), hs]
    simp only [sin_tells, Option.bind_some]
    change (if inB 0 2 s.f1 = true then if inB 0 3 s.f2 = true then spec_GoodSteps.j1 _ _ _ _ _ _ (!(inB (-99) 99 s.f4)) _ _ _ _ _ else _ else _) = _
    cases inB 0 2 s.f1 <;> cases inB 0 3 s.f2 <;> simp
  refine all_from (F := fun k i => spec_GoodSteps.l0 k l l (l.length : Int) (i : Int)) (ev_stop fun k => ?_) (fun i hi hp q hq => round i hi q ?_) (fun i hi hp => round i hi _ ?_)
  · rw [spec_GoodSteps.l0, if_neg (by omega)]
    congr 1
    exact decide_eq_decide.2 (by omega)
  · exact ev_ite_pos hp hq
  · exact ev_ite_neg (by simp [hp]) (ev_some fun _ => rfl)
theorem stepsB_ok {l : List S98} (h : stepsB l = true) : (∀ i, i < l.length → stepOk (rd_T98 l i) i = true) ∧ l.length ≤ 10 := by
  unfold stepsB at h
  simp only [Bool.and_eq_true, List.all_eq_true, List.mem_range, decide_eq_true_eq] at h
  exact h

theorem szstep (l : List S100) (hl : l.length ≤ maxLen) : laws_szStepS.f l 1048576 = some (if 1048576 < (l.length : Int) then -1 else 1048576 - (l.length : Int)) := by
  have hm : maxLen ≤ 9223372036854775807 := by decide
  unfold laws_szStepS.f
  rw [w64 (by omega) (by omega)]
  split <;> split <;> first | rfl | omega

/-- The rising numbers from m on. -/
def upFrom (m : Int) : Nat → List Int
  | 0 => []
  | n + 1 => m :: upFrom (m + 1) n
theorem upFrom_len (m : Int) : ∀ n, (upFrom m n).length = n
  | 0 => rfl
  | n + 1 => by rw [upFrom, List.length_cons, upFrom_len (m + 1) n]
theorem take_set_succ (l : List Int) (i : Nat) (m : Int) (h : i < l.length) : (l.set i m).take (i + 1) = l.take i ++ [m] := by
  rw [List.take_succ_eq_append_getElem (by simpa using h), List.take_set_of_le (Nat.le_refl i)]
  simp
theorem markInt_l : ∀ (d i : Nat) (l : List Int) (m : Int), i + d = l.length → 0 ≤ m → m + d ≤ 4611686018427387903 → l.length ≤ 4611686018427387903 → Ev (fun k => laws_markIntS.l0 k l m (i : Int)) (m + d, l.take i ++ upFrom m d)
  | 0, i, l, m, h, _, _, _ => ev_stop fun k => by
    rw [laws_markIntS.l0, if_neg (by omega), List.take_of_length_le (by omega)]
    simp [upFrom]
  | d + 1, i, l, m, h, hm, hb, hl => by
    have ih := markInt_l d (i + 1) (l.set i m) (m + 1) (by simpa using by omega) (by omega) (by omega) (by simpa using hl)
    rw [take_set_succ l i m (by omega), List.append_assoc] at ih
    have e : m + 1 + (d : Int) = m + ((d + 1 : Nat) : Int) := by omega
    rw [e] at ih
    exact ev_step ih fun k => by rw [laws_markIntS.l0, if_pos (by omega), if_pos (by omega), w64 (by omega) (by omega), next i (by omega), Int.toNat_natCast]
theorem markInt_tells (l : List Int) (m : Int) (hm : 0 ≤ m) (hb : m + l.length ≤ 4611686018427387903) : Ev (fun k => laws_markIntS.f k l m) (m + l.length, upFrom m l.length) := by
  have h := markInt_l l.length 0 l m (by omega) hm hb (by omega)
  rw [List.take_zero, List.nil_append] at h
  exact h

theorem heldInt_l (l : List Int) (hl : l.length ≤ 4611686018427387903) : ∀ (d i : Nat) (m : Int), i + d = l.length → l.drop i = upFrom m d → 0 ≤ m → m + d ≤ 4611686018427387903 → Ev (fun k => laws_heldIntS.l0 k l m (i : Int)) (m + d)
  | 0, i, m, h, _, _, _ => ev_stop fun k => by
    rw [laws_heldIntS.l0, if_neg (by omega)]
    simp
  | d + 1, i, m, h, he, hm, hb => by
    rw [drop_at l i (by omega), upFrom] at he
    injection he with e1 e2
    have ih := heldInt_l l hl d (i + 1) (m + 1) (by omega) e2 (by omega) (by omega)
    have e : m + 1 + (d : Int) = m + ((d + 1 : Nat) : Int) := by omega
    rw [e] at ih
    exact ev_step ih fun k => by rw [laws_heldIntS.l0, if_pos (by omega), if_pos (by omega), rdn, if_pos e1, w64 (by omega) (by omega), next i (by omega)]
theorem heldInt_tells (m : Int) (n : Nat) (hm : 0 ≤ m) (hb : m + n ≤ 4611686018427387903) : Ev (fun k => laws_heldIntS.f k (upFrom m n) m) (m + n) := by
  have h := heldInt_l (upFrom m n) (by rw [upFrom_len]; omega) n 0 m (by rw [upFrom_len]; omega) (by simp) hm hb
  exact h

theorem drop_r (l : List (List Int)) (i : Nat) (h : i < l.length) : l.drop i = l.getD i [] :: l.drop (i + 1) := by
  rw [List.drop_eq_getElem_cons h]
  simp [List.getD, List.getElem?_eq_getElem h]
theorem rdR (l : List (List Int)) (i : Nat) : rd_L3 l (i : Int) = l.getD i [] := by simp [rd_L3]
/-- The weight of a row of rows: each row and each number counts one. -/
def weigh (l : List (List Int)) : Nat := l.length + (l.map List.length).sum
theorem row_le {l : List (List Int)} {x : List Int} (h : x ∈ l) : x.length ≤ (l.map List.length).sum := by
  induction l with
  | nil => simp at h
  | cons a l ih =>
    rw [List.map_cons, List.sum_cons]
    rcases List.mem_cons.1 h with e | e
    · subst e
      omega
    · have := ih e
      omega
theorem getR_mem (l : List (List Int)) (i : Nat) (h : i < l.length) : l.getD i [] ∈ l := by
  have := List.getElem_mem h
  simpa [List.getD, List.getElem?_eq_getElem h] using this

/-- A row of rows of the rising numbers from m on, of the same lengths. -/
def upRows (m : Int) : List (List Int) → List (List Int)
  | [] => []
  | r :: l => upFrom m r.length :: upRows (m + r.length) l
theorem upRows_len (m : Int) : ∀ l, (upRows m l).length = l.length
  | [] => rfl
  | r :: l => by rw [upRows, List.length_cons, upRows_len (m + r.length) l, List.length_cons]
theorem take_set_row (l : List (List Int)) (i : Nat) (m : List Int) (h : i < l.length) : (l.set i m).take (i + 1) = l.take i ++ [m] := by
  rw [List.take_succ_eq_append_getElem (by simpa using h), List.take_set_of_le (Nat.le_refl i)]
  simp
theorem markss_l : ∀ (d i : Nat) (l : List (List Int)) (m : Int), i + d = l.length → l.length ≤ 4611686018427387903 → 0 ≤ m → m + ((l.drop i).map List.length).sum ≤ 1000000000 → Ev (fun k => laws_markIntSS.l0 k l m (i : Int)) (m + ((l.drop i).map List.length).sum, l.take i ++ upRows m (l.drop i))
  | 0, i, l, m, h, _, _, _ => ev_stop fun k => by
    rw [laws_markIntSS.l0, if_neg (by omega), List.drop_of_length_le (by omega), List.take_of_length_le (by omega)]
    simp [upRows]
  | d + 1, i, l, m, h, hl, hm, hb => by
    rw [drop_r l i (by omega), List.map_cons, List.sum_cons] at hb
    rw [drop_r l i (by omega), List.map_cons, List.sum_cons, upRows]
    have hset : (l.set i (upFrom m (l.getD i []).length)).drop (i + 1) = l.drop (i + 1) := List.drop_set_of_lt (by omega)
    have ih := markss_l d (i + 1) (l.set i (upFrom m (l.getD i []).length)) (m + (l.getD i []).length) (by rw [List.length_set]; omega) (by rw [List.length_set]; omega) (by omega) (by rw [hset]; omega)
    rw [hset, take_set_row l i _ (by omega), List.append_assoc] at ih
    refine Ev.step (f := fun k => (laws_markIntS.f k (l.getD i []) m).bind fun bt => laws_markIntSS.l0 k (l.set i bt.2) bt.1 ((i + 1 : Nat) : Int)) (fun k => ?_) (ev_bind (markInt_tells (l.getD i []) m hm (by omega)) ?_)
    · rw [laws_markIntSS.l0, if_pos (by omega), if_pos (by omega), Int.toNat_natCast, next i (by omega)]
    · have e : m + ((l.getD i []).length : Int) + (((l.drop (i + 1)).map List.length).sum : Int) = m + (((l.getD i []).length + ((l.drop (i + 1)).map List.length).sum : Nat) : Int) := by omega
      rw [e] at ih
      exact ih
theorem markss_tells (l : List (List Int)) (m : Int) (hl : weigh l ≤ 1048576) (hm : 0 ≤ m) (hb : m ≤ 900000000) : Ev (fun k => laws_markIntSS.f k l m) (m + ((l.map List.length).sum : Nat), upRows m l) := by
  unfold weigh at hl
  have h := markss_l l.length 0 l m (by omega) (by omega) hm (by rw [List.drop_zero]; omega)
  rw [List.drop_zero, List.take_zero, List.nil_append] at h
  exact h

theorem markStep_l : ∀ (d i : Nat) (l : List S98) (m : Int), i + d = l.length → l.length ≤ 4611686018427387903 → 0 ≤ m → m + 5 * d ≤ 4611686018427387903 → ∃ r, Ev (fun k => laws_markStepS.l0 k l m (i : Int)) (m + 5 * d, r)
  | 0, i, l, m, h, _, _, _ => ⟨l, ev_stop fun k => by
    rw [laws_markStepS.l0, if_neg (by omega)]
    simp⟩
  | d + 1, i, l, m, h, hl, hm, hb => by
    have hs : ∃ l' : List S98, l'.length = l.length ∧ ∀ k, laws_markStepS.l0 (k + 1) l m (i : Int) = laws_markStepS.l0 k l' (m + 5) ((i + 1 : Nat) : Int) := by
      apply Exists.intro
      apply And.intro
      rotate_left
      · intro k
        rw [laws_markStepS.l0, if_pos (by omega), if_pos (by omega)]
        simp only [Option.bind_some]
        rw [w64 (i := m + 1) (by omega) (by omega), w64 (i := m + 1 + 1) (by omega) (by omega), w64 (i := m + 1 + 1 + 1) (by omega) (by omega), w64 (i := m + 1 + 1 + 1 + 1) (by omega) (by omega), w64 (i := m + 1 + 1 + 1 + 1 + 1) (by omega) (by omega), next i (by omega), show m + 1 + 1 + 1 + 1 + 1 = m + 5 by omega]
      · simp
    obtain ⟨l', hl', hk⟩ := hs
    obtain ⟨r, hr⟩ := markStep_l d (i + 1) l' (m + 5) (by omega) (by omega) (by omega) (by omega)
    have e : m + 5 + 5 * (d : Int) = m + 5 * ((d + 1 : Nat) : Int) := by omega
    rw [e] at hr
    exact ⟨r, ev_step hr hk⟩
theorem markStep_tells (l : List S98) (m : Int) (hm : 0 ≤ m) (hb : m ≤ 1000000000) (hl : l.length ≤ 1048576) : ∃ r, Ev (fun k => laws_markStepS.f k l m) (m + 5 * l.length, r) := markStep_l l.length 0 l m (by omega) (by omega) (by omega) (by omega)

theorem eqints_l (l : List Int) (hl : l.length ≤ 4611686018427387904) : ∀ (d i : Nat), i + d = l.length → Ev (fun k => laws_eqIntS.l0 k l l (i : Int)) true
  | 0, i, h => ev_stop fun k => by
    rw [laws_eqIntS.l0, if_neg (by omega)]
  | d + 1, i, h => by
    have h1 : wrap64 ((i : Int) + 1) = ((i + 1 : Nat) : Int) := by rw [w64 (by omega) (by omega)]; omega
    refine ev_step (eqints_l l hl d (i + 1) (by omega)) fun k => by
      rw [laws_eqIntS.l0, if_pos (by omega), if_pos (by omega), if_pos (by omega), if_pos rfl, h1]
theorem eqints_tells (l : List Int) (hl : l.length ≤ 4611686018427387904) : Ev (fun k => laws_eqIntS.f k l l) true := by
  refine Ev.congr (g := fun k => laws_eqIntS.f k l l) (fun k => ?_) (eqints_l l hl l.length 0 (by omega))
  unfold laws_eqIntS.f
  rw [if_pos rfl]
  rfl

theorem eqss_l (l : List (List Int)) (hl : l.length ≤ 4611686018427387903) (hr : ∀ x ∈ l, x.length ≤ 4611686018427387903) : ∀ (d i : Nat), i + d = l.length → Ev (fun k => laws_eqIntSS.l0 k l l (i : Int)) true
  | 0, i, h => ev_stop fun k => by
    rw [laws_eqIntSS.l0, if_neg (by omega)]
  | d + 1, i, h => by
    have hw := hr _ (getR_mem l i (by omega))
    refine Ev.step (f := fun k => (laws_eqIntS.f k (l.getD i []) (l.getD i [])).bind fun t => if t = true then laws_eqIntSS.l0 k l l ((i + 1 : Nat) : Int) else some false) (fun k => ?_) (ev_bind (eqints_tells _ (by omega)) (ev_ite_pos rfl (eqss_l l hl hr d (i + 1) (by omega))))
    rw [laws_eqIntSS.l0, if_pos (by omega), if_pos (by omega), if_pos (by omega), rdR, next i (by omega)]
theorem eqss_tells (l : List (List Int)) (hl : l.length ≤ 4611686018427387903) (hr : ∀ x ∈ l, x.length ≤ 4611686018427387903) : Ev (fun k => laws_eqIntSS.f k l l) true := by
  refine Ev.congr (g := fun k => laws_eqIntSS.f k l l) (fun k => ?_) (eqss_l l hl hr l.length 0 (by omega))
  unfold laws_eqIntSS.f
  rw [if_pos rfl]
  rfl
theorem eqss_weigh (l : List (List Int)) (hl : weigh l ≤ 1048576) : Ev (fun k => laws_eqIntSS.f k l l) true := by
  unfold weigh at hl
  exact eqss_tells l (by omega) fun x hx => by have := row_le hx; omega

/-- What holds from some number of rounds on. -/
def Evs (P : Nat → Prop) : Prop := ∃ K, ∀ k, K ≤ k → P k
theorem Evs.and {P Q : Nat → Prop} (h : Evs P) (h2 : Evs Q) : Evs (fun k => P k ∧ Q k) := by
  obtain ⟨K, hK⟩ := h
  obtain ⟨L, hL⟩ := h2
  exact ⟨max K L, fun k hk => ⟨hK k (by omega), hL k (by omega)⟩⟩
theorem Evs.of {P : Prop} (h : P) : Evs (fun _ => P) := ⟨0, fun _ _ => h⟩
theorem Evs.ev {α : Type} {g : Nat → Option α} {r : α} (h : Ev g r) : Evs (fun k => g k = some r) := h
theorem Evs.now {P : Nat → Prop} (h : Evs P) : ∃ k, P k := by
  obtain ⟨K, hK⟩ := h
  exact ⟨K, hK K (Nat.le_refl _)⟩
theorem Evs.mono {P Q : Nat → Prop} (h : Evs P) (hq : ∀ k, P k → Q k) : Evs Q := by
  obtain ⟨K, hK⟩ := h
  exact ⟨K, fun k hk => hq k (hK k hk)⟩

theorem rows_sum : ∀ (l : List (List Int)) (n : Nat), (∀ r ∈ l, r.length ≤ n) → (l.map List.length).sum ≤ l.length * n
  | [], n, _ => by simp
  | r :: l, n, h => by
    have h1 := h r (by simp)
    have h2 := rows_sum l n fun x hx => h x (List.mem_cons_of_mem _ hx)
    rw [List.map_cons, List.sum_cons, List.length_cons, Nat.add_mul]
    omega
theorem shard_ok {s : S98} {i : Int} (h : stepOk s i = true) : 0 ≤ s.f1 ∧ s.f1 < 3 := by
  unfold stepOk inB at h
  simp only [Bool.and_eq_true, decide_eq_true_eq] at h
  omega
theorem row_len (x : List (List Int)) (j : Int) (n : Nat) (h : ∀ r ∈ x, r.length ≤ n) : (rd_L3 x j).length ≤ n := by
  unfold rd_L3
  rw [List.getD]
  cases hq : x[j.toNat]? with
  | none => simp
  | some v => exact h v (List.mem_of_getElem? hq)

theorem heldss_l : ∀ (d i : Nat) (l : List (List Int)) (z : List (List Int)) (m : Int), i + d = z.length → z.length ≤ 4611686018427387903 → z.drop i = upRows m l → 0 ≤ m → m + (l.map List.length).sum ≤ 1000000000 → Ev (fun k => laws_heldIntSS.l0 k z m (i : Int)) (m + ((l.map List.length).sum : Nat))
  | 0, i, l, z, m, h, hz, he, hm, hb => ev_stop fun k => by
    rw [laws_heldIntSS.l0, if_neg (by omega)]
    rw [List.drop_of_length_le (by omega)] at he
    cases l with
    | nil => simp
    | cons r l => simp [upRows] at he
  | d + 1, i, l, z, m, h, hz, he, hm, hb => by
    rw [drop_r z i (by omega)] at he
    cases l with
    | nil => simp [upRows] at he
    | cons r l =>
      rw [upRows] at he
      injection he with e1 e2
      rw [List.map_cons, List.sum_cons] at hb ⊢
      have ih := heldss_l d (i + 1) l z (m + r.length) (by omega) hz e2 (by omega) (by omega)
      refine Ev.step (f := fun k => (laws_heldIntS.f k (z.getD i []) m).bind fun t => if t < 0 then some (-1) else laws_heldIntSS.l0 k z t ((i + 1 : Nat) : Int)) (fun k => ?_) ?_
      · rw [laws_heldIntSS.l0, if_pos (by omega), if_pos (by omega), rdR, next i (by omega)]
      · rw [e1]
        refine ev_bind (heldInt_tells m r.length hm (by omega)) (ev_ite_neg (by omega) ?_)
        have e : m + (r.length : Int) + ((l.map List.length).sum : Nat) = m + ((r.length + (l.map List.length).sum : Nat) : Int) := by omega
        rw [e] at ih
        exact ih
theorem heldss_tells (l : List (List Int)) (m : Int) (hl : weigh l ≤ 1048576) (hm : 0 ≤ m) (hb : m ≤ 900000000) : Ev (fun k => laws_heldIntSS.f k (upRows m l) m) (m + ((l.map List.length).sum : Nat)) := by
  unfold weigh at hl
  exact heldss_l (upRows m l).length 0 l (upRows m l) m (by omega) (by rw [upRows_len]; omega) (by simp) hm (by omega)

/-- A rising row: its numbers as a set. -/
abbrev Up (l : List Int) : Prop := l.Pairwise (· < ·)
theorem up_ext : ∀ {l m : List Int}, Up l → Up m → (∀ y, y ∈ l ↔ y ∈ m) → l = m
  | [], [], _, _, _ => rfl
  | [], b :: m, _, _, h => by simpa using (h b).2 (by simp)
  | a :: l, [], _, _, h => by simpa using (h a).1 (by simp)
  | a :: l, b :: m, hl, hm, h => by
    have l1 := List.pairwise_cons.1 hl
    have m1 := List.pairwise_cons.1 hm
    have e : a = b := by
      rcases List.mem_cons.1 ((h a).1 (by simp)) with e | e
      · exact e
      · rcases List.mem_cons.1 ((h b).2 (by simp)) with e2 | e2
        · exact e2.symm
        · have := l1.1 b e2
          have := m1.1 a e
          omega
    subst e
    congr 1
    refine up_ext l1.2 m1.2 fun y => ⟨fun hy => ?_, fun hy => ?_⟩
    · rcases List.mem_cons.1 ((h y).1 (List.mem_cons_of_mem _ hy)) with e | e
      · have := l1.1 y hy
        omega
      · exact e
    · rcases List.mem_cons.1 ((h y).2 (List.mem_cons_of_mem _ hy)) with e | e
      · have := m1.1 y hy
        omega
      · exact e
def ins (x : Int) : List Int → List Int
  | [] => [x]
  | a :: l => if a < x then a :: ins x l else if a = x then a :: l else x :: a :: l
theorem mem_ins (x y : Int) : ∀ l : List Int, y ∈ ins x l ↔ y = x ∨ y ∈ l
  | [] => by simp [ins]
  | a :: l => by
    unfold ins
    split
    · rw [List.mem_cons, mem_ins x y l, List.mem_cons]
      exact ⟨fun h => h.elim (fun h => .inr (.inl h)) (fun h => h.elim .inl (fun h => .inr (.inr h))), fun h => h.elim (fun h => .inr (.inl h)) (fun h => h.elim .inl (fun h => .inr (.inr h)))⟩
    · split
      · rename_i h
        subst h
        simp
      · simp
theorem up_ins (x : Int) : ∀ {l : List Int}, Up l → Up (ins x l)
  | [], _ => by simp [ins]
  | a :: l, h => by
    have h1 := List.pairwise_cons.1 h
    unfold ins
    split
    · rename_i hx
      refine List.pairwise_cons.2 ⟨fun y hy => ?_, up_ins x h1.2⟩
      rcases (mem_ins x y l).1 hy with e | e
      · omega
      · exact h1.1 y e
    · split
      · exact h
      · refine List.pairwise_cons.2 ⟨fun y hy => ?_, h⟩
        rcases List.mem_cons.1 hy with e | e
        · omega
        · have := h1.1 y e
          omega
theorem ins_len (x : Int) : ∀ l : List Int, (ins x l).length ≤ l.length + 1
  | [] => by simp [ins]
  | a :: l => by
    have := ins_len x l
    unfold ins
    split
    · simp; omega
    · split <;> simp
theorem upto_of {d : Array Int} (hs : ∀ i j, i ≤ j → j < d.size → d[i]! ≤ d[j]!) : ∀ m, m ≤ d.size → Up (Lib.compactUpTo d m) ∧ ∀ y, y ∈ Lib.compactUpTo d m ↔ ∃ j, j < m ∧ d[j]! = y
  | 0, _ => by simp [Lib.compactUpTo]
  | m + 1, hm => by
    obtain ⟨h1, h2⟩ := upto_of hs m (by omega)
    rw [Lib.compactUpTo_succ]
    by_cases hk : Lib.keeps d m = true
    · rw [if_pos hk]
      refine ⟨List.pairwise_append.2 ⟨h1, by simp, fun y hy z hz => ?_⟩, fun y => ?_⟩
      · obtain ⟨j, hj, rfl⟩ := (h2 y).1 hy
        obtain rfl : z = d[m]! := by simpa using hz
        have hne : d[m]! ≠ d[m - 1]! := by
          simp only [Lib.keeps, decide_eq_true_eq] at hk
          rcases hk with h | h
          · omega
          · exact h
        have a1 := hs j (m - 1) (by omega) (by omega)
        have a2 := hs (m - 1) m (by omega) (by omega)
        omega
      · rw [List.mem_append, h2]
        constructor
        · rintro (⟨j, hj, e⟩ | e)
          · exact ⟨j, by omega, e⟩
          · exact ⟨m, by omega, (List.mem_singleton.1 e).symm⟩
        · rintro ⟨j, hj, e⟩
          by_cases hjm : j < m
          · exact .inl ⟨j, hjm, e⟩
          · obtain rfl : j = m := by omega
            exact .inr (by simp [e])
    · rw [if_neg hk, List.append_nil]
      refine ⟨h1, fun y => ?_⟩
      rw [h2]
      have hk2 : m ≠ 0 ∧ d[m]! = d[m - 1]! := by simpa [Lib.keeps] using hk
      constructor
      · rintro ⟨j, hj, e⟩
        exact ⟨j, by omega, e⟩
      · rintro ⟨j, hj, e⟩
        by_cases hjm : j < m
        · exact ⟨j, hjm, e⟩
        · obtain rfl : j = m := by omega
          exact ⟨j - 1, by omega, by rw [← hk2.2]; exact e⟩
/-- Sorted, and each but once: the rising row of the numbers. -/
def setOf (l : List Int) : List Int := Lib.compact (l.mergeSort fun x y => decide (x ≤ y))
theorem sort_le (l : List Int) : (l.mergeSort fun x y => decide (x ≤ y)).Pairwise (· ≤ ·) := by
  have h := List.pairwise_mergeSort (le := fun x y : Int => decide (x ≤ y)) (fun a b c h1 h2 => by simp only [decide_eq_true_eq] at *; omega) (fun a b => by simp only [Bool.or_eq_true, decide_eq_true_eq]; omega) l
  exact h.imp (fun h => by simpa using h)
theorem setOf_up_mem (l : List Int) : Up (setOf l) ∧ ∀ y, y ∈ setOf l ↔ y ∈ l := by
  have hs := sort_le l
  have hm : ∀ y, y ∈ (l.mergeSort fun x y => decide (x ≤ y)) ↔ y ∈ l := fun y => List.mem_mergeSort
  unfold setOf
  generalize (l.mergeSort fun x y => decide (x ≤ y)) = s at hs hm
  unfold Lib.compact
  obtain ⟨h1, h2⟩ := upto_of (d := s.toArray) (fun i j hij hj => by
    have hj' : j < s.length := by simpa using hj
    rw [getElem!_pos s.toArray i (by simp; omega), getElem!_pos s.toArray j (by simp; omega)]
    simp only [List.getElem_toArray]
    by_cases e : i = j
    · subst e
      exact Int.le_refl _
    · exact List.pairwise_iff_getElem.1 hs i j (by omega) hj' (by omega)) s.length (by simp)
  refine ⟨h1, fun y => (h2 y).trans (Iff.trans ?_ (hm y))⟩
  constructor
  · rintro ⟨j, hj, e⟩
    rw [getElem!_pos s.toArray j (by simpa using hj)] at e
    rw [← e]
    simp
  · intro hy
    obtain ⟨j, hj, e⟩ := List.mem_iff_getElem.1 hy
    exact ⟨j, hj, by rw [getElem!_pos s.toArray j (by simpa using hj)]; simpa using e⟩
theorem setOf_ins {l : List Int} (h : Up l) (x : Int) : setOf (l ++ [x]) = ins x l := by
  obtain ⟨h1, h2⟩ := setOf_up_mem (l ++ [x])
  refine up_ext h1 (up_ins x h) fun y => (h2 y).trans ?_
  rw [mem_ins, List.mem_append, List.mem_singleton]
  exact Or.comm
theorem set_add {L : List Int} (x : Int) : setOf (L ++ [x]) = ins x (setOf L) := by
  obtain ⟨h1, h2⟩ := setOf_up_mem (L ++ [x])
  obtain ⟨h3, h4⟩ := setOf_up_mem L
  refine up_ext h1 (up_ins x h3) fun y => (h2 y).trans ?_
  rw [mem_ins, h4, List.mem_append, List.mem_singleton]
  exact Or.comm
theorem setOf_len (L : List Int) : (setOf L).length ≤ L.length := by
  unfold setOf
  exact Nat.le_trans (Lib.compact_length_le _) (by simp)
theorem sort_nodup {L : List Int} (h : L.Nodup) : (L.mergeSort fun x y => decide (x ≤ y)) = setOf L := by
  obtain ⟨h3, h4⟩ := setOf_up_mem L
  have hs := sort_le L
  have hp : (L.mergeSort fun x y => decide (x ≤ y)).Nodup := (List.mergeSort_perm L _).nodup_iff.2 h
  have hu : Up (L.mergeSort fun x y => decide (x ≤ y)) := by
    refine (List.pairwise_iff_getElem.2 fun i j hi hj hij => ?_)
    have a := List.pairwise_iff_getElem.1 hs i j hi hj hij
    have b := List.pairwise_iff_getElem.1 hp i j hi hj hij
    omega
  exact up_ext hu h3 fun y => List.mem_mergeSort.trans (h4 y).symm

theorem put_l (l : List Int) (x : Int) (hl : l.length ≤ 1000000000) : ∀ (d i : Nat), i + d = l.length → Ev (fun k => spec_l1Put.l0 k l x (i : Int)) (l.take i ++ ins x (l.drop i))
  | 0, i, h => ev_stop fun k => by
    rw [spec_l1Put.l0, if_neg (by omega)]
    simp only [Option.bind_some, Int.toNat_natCast, List.nil_append, List.length_nil, Nat.zero_add]
    rw [if_pos (by omega), if_pos (by omega), if_pos (by simp; omega), if_pos (by simp; omega), if_pos (by simp; omega), List.drop_of_length_le (by omega)]
    simp [ins]
  | d + 1, i, h => by
    have ih := put_l l x hl d (i + 1) (by omega)
    rw [drop_at l i (by omega), ins]
    have ha := drop_at l i (by omega)
    by_cases h1 : l.getD i 0 < x
    · rw [if_pos h1]
      refine ev_step (by
        have e : l.take (i + 1) = l.take i ++ [l.getD i 0] := by
          rw [List.take_succ_eq_append_getElem (by omega)]
          simp [List.getD, List.getElem?_eq_getElem (show i < l.length by omega)]
        rw [e, List.append_assoc] at ih
        exact ih) fun k => by
        rw [spec_l1Put.l0, if_pos (by omega), if_pos (by omega), rdn, if_pos h1, next i (by omega)]
    · rw [if_neg h1]
      by_cases h2 : l.getD i 0 = x
      · rw [if_pos h2]
        exact ev_stop fun k => by
          rw [spec_l1Put.l0, if_pos (by omega), if_pos (by omega), rdn, if_neg h1, if_pos h2, ← ha, List.take_append_drop]
      · rw [if_neg h2]
        exact ev_stop fun k => by
          rw [spec_l1Put.l0, if_pos (by omega), if_pos (by omega), rdn, if_neg h1, if_neg h2]
          simp only [Option.bind_some, Int.toNat_natCast, List.nil_append, List.length_nil, Nat.zero_add]
          rw [if_pos (by omega), if_pos (by simp; omega), if_pos (by simp; omega), if_pos (by simp; omega), ha]
          simp
theorem put_tells (l : List Int) (x : Int) (hl : l.length ≤ 1000000000) : Ev (fun k => spec_l1Put.f k l x) (ins x l) := by
  have h := put_l l x hl l.length 0 (by omega)
  rw [List.drop_zero, List.take_zero, List.nil_append] at h
  exact h

theorem rdL3 (l : List (List Int)) (i : Nat) : rd_L3 l (i : Int) = l.getD i [] := by simp [rd_L3]
theorem drop_row (l : List (List Int)) (i : Nat) (h : i < l.length) : l.drop i = l.getD i [] :: l.drop (i + 1) := by
  rw [List.drop_eq_getElem_cons h]
  simp [List.getD, List.getElem?_eq_getElem h]
theorem concat_l1 (ls : List (List Int)) (hl : ls.length ≤ 4611686018427387903) : ∀ (d i : Nat) (acc : List Int), i + d = ls.length → acc.length + (ls.drop i).flatten.length < 17592186044416 → Ev (fun k => slices_Concat_int_int.l1 k acc ls (ls.length : Int) (i : Int)) (acc ++ (ls.drop i).flatten)
  | 0, i, acc, h, _ => ev_stop fun k => by
    rw [slices_Concat_int_int.l1, if_neg (by omega), List.drop_of_length_le (by omega)]
    simp
  | d + 1, i, acc, h, hb => by
    rw [drop_row ls i (by omega), List.flatten_cons, List.length_append] at hb
    have ih := concat_l1 ls hl d (i + 1) (acc ++ ls.getD i []) (by omega) (by rw [List.length_append]; omega)
    rw [drop_row ls i (by omega), List.flatten_cons, ← List.append_assoc]
    exact ev_step ih fun k => by
      rw [slices_Concat_int_int.l1, if_pos (by omega), if_pos (by omega), if_pos (by omega), rdL3, if_pos (by omega), next i (by omega)]
theorem concat_l0 (ls : List (List Int)) (hl : ls.length ≤ 4611686018427387903) (r : List Int) (hr : Ev (fun k => slices_Concat_int_int.l1 k [] ls (ls.length : Int) 0) r) : ∀ (d i : Nat) (s : Int), i + d = ls.length → 0 ≤ s → s + (ls.drop i).flatten.length < 17592186044416 → Ev (fun k => slices_Concat_int_int.l0 k ls s ls (ls.length : Int) (i : Int)) r
  | 0, i, s, h, h0, hb => by
    refine ev_step hr fun k => ?_
    rw [slices_Concat_int_int.l0, if_neg (by omega)]
    unfold slices_Grow_int_int.f
    rw [if_pos ⟨h0, by simp; omega⟩, Option.bind_some]
  | d + 1, i, s, h, h0, hb => by
    rw [drop_row ls i (by omega), List.flatten_cons, List.length_append] at hb
    have ih := concat_l0 ls hl r hr d (i + 1) (s + (ls.getD i []).length) (by omega) (by omega) (by omega)
    exact ev_step ih fun k => by
      rw [slices_Concat_int_int.l0, if_pos (by omega), if_pos (by omega), if_pos (by omega), rdL3, w64 (by omega) (by omega), if_neg (by omega), next i (by omega)]
theorem concat_tells (ls : List (List Int)) (hl : ls.length ≤ 4611686018427387903) (hb : ls.flatten.length < 17592186044416) : Ev (fun k => slices_Concat_int_int.f k ls) ls.flatten := by
  refine concat_l0 ls hl _ ?_ ls.length 0 0 (by omega) (by omega) (by rw [List.drop_zero]; omega)
  have h := concat_l1 ls hl ls.length 0 [] (by omega) (by rw [List.drop_zero, List.length_nil]; omega)
  rw [List.drop_zero, List.nil_append] at h
  exact h

theorem together_tells (a b : List Int) (ha : a.length ≤ 1000000000) (hb : b.length ≤ 1000000000) : Ev (fun k => impl_together.f k a b) (setOf (a ++ b)) := by
  unfold impl_together.f
  have h := concat_tells [a, b] (by simp) (by simp; omega)
  simp only [List.flatten_cons, List.flatten_nil, List.append_nil] at h
  refine ev_bind h (ev_some fun _ => ?_)
  unfold slices_Sort_int_int.f slices_Compact_int_int.f
  rw [if_pos (by simp; omega)]
  rfl

def needAt (l : List S98) (i : Nat) (x : List (List Int)) : List (List Int) := if (rd_T98 l i).f0 = 1 then x else if (rd_T98 l (rd_T98 l i).f3).f1 = (rd_T98 l i).f1 then x else x.set (rd_T98 l i).f1.toNat (ins (rd_T98 l (rd_T98 l i).f3).f1 (rd_L3 x (rd_T98 l i).f1))
def needsGo (l : List S98) : Nat → Nat → List (List Int) → List (List Int)
  | 0, _, x => x
  | d + 1, i, x => needsGo l d (i + 1) (needAt l i x)
theorem row_up (x : List (List Int)) (j : Int) (h : ∀ r ∈ x, Up r) : Up (rd_L3 x j) := by
  unfold rd_L3
  rw [List.getD]
  cases hq : x[j.toNat]? with
  | none => exact List.Pairwise.nil
  | some v => exact h v (List.mem_of_getElem? hq)
theorem needAt_inv (l : List S98) (i : Nat) (x : List (List Int)) (hu : ∀ r ∈ x, Up r) (h : ∀ r ∈ x, r.length ≤ i) : (needAt l i x).length = x.length ∧ (∀ r ∈ needAt l i x, Up r) ∧ ∀ r ∈ needAt l i x, r.length ≤ i + 1 := by
  unfold needAt
  split
  · exact ⟨rfl, hu, fun r hr => by have := h r hr; omega⟩
  · split
    · exact ⟨rfl, hu, fun r hr => by have := h r hr; omega⟩
    · refine ⟨by simp, fun r hr => ?_, fun r hr => ?_⟩
      · rcases List.mem_or_eq_of_mem_set hr with e | e
        · exact hu r e
        · rw [e]
          exact up_ins _ (row_up x _ hu)
      · rcases List.mem_or_eq_of_mem_set hr with e | e
        · have := h r e
          omega
        · rw [e]
          have h1 := ins_len (rd_T98 l (rd_T98 l i).f3).f1 (rd_L3 x (rd_T98 l i).f1)
          have h2 := row_len x (rd_T98 l i).f1 i h
          omega
theorem needsGo_inv (l : List S98) : ∀ (d i : Nat) (x : List (List Int)), (∀ r ∈ x, Up r) → (∀ r ∈ x, r.length ≤ i) → (needsGo l d i x).length = x.length ∧ ∀ r ∈ needsGo l d i x, r.length ≤ i + d
  | 0, i, x, _, h => ⟨rfl, h⟩
  | d + 1, i, x, hu, h => by
    obtain ⟨a, u, b⟩ := needAt_inv l i x hu h
    obtain ⟨a2, b2⟩ := needsGo_inv l d (i + 1) (needAt l i x) u b
    refine ⟨a2.trans a, fun r hr => ?_⟩
    have := b2 r hr
    omega
theorem from_ok {s : S98} {i : Nat} (h : stepOk s i = true) (hi : i ≤ 10) (h1 : ¬ s.f0 = 1) : 0 ≤ s.f3 ∧ s.f3 < i := by
  unfold stepOk at h
  rw [if_neg h1, w64 (i := (i : Int) - 1) (by omega) (by omega)] at h
  by_cases h2 : s.f0 = 2
  · rw [if_pos h2] at h
    unfold inB at h
    simp only [Bool.and_eq_true, decide_eq_true_eq] at h
    omega
  · rw [if_neg h2] at h
    by_cases h3 : s.f0 = 3
    · rw [if_pos h3] at h
      unfold inB at h
      simp only [Bool.and_eq_true, decide_eq_true_eq] at h
      omega
    · rw [if_neg h3] at h
      simp at h
theorem needs_both (l : List S98) (hl : l.length ≤ 10) (ok : ∀ i, i < l.length → stepOk (rd_T98 l i) i = true) : ∀ (d i : Nat) (x : List (List Int)), i + d = l.length → x.length = 3 → (∀ r ∈ x, Up r) → (∀ r ∈ x, r.length ≤ i) → Ev (fun k => spec_l15Needs.l0 k l x l (l.length : Int) (i : Int)) (needsGo l d i x) ∧ Ev (fun k => impl_needs.l0 k l x l (l.length : Int) (i : Int)) (needsGo l d i x)
  | 0, i, x, h, _, _, _ => ⟨ev_stop fun k => by
    rw [spec_l15Needs.l0, if_neg (by omega)]
    rfl, ev_stop fun k => by
    rw [impl_needs.l0, if_neg (by omega)]
    rfl⟩
  | d + 1, i, x, h, h3, hu, hr => by
    obtain ⟨a, b⟩ := shard_ok (ok i (by omega))
    obtain ⟨c1, cu, c2⟩ := needAt_inv l i x hu hr
    obtain ⟨s1, s2⟩ := needs_both l hl ok d (i + 1) (needAt l i x) (by omega) (c1.trans h3) cu c2
    have hlen := row_len x (rd_T98 l i).f1 i hr
    have hup := row_up x (rd_T98 l i).f1 hu
    show Ev _ (needsGo l d (i + 1) (needAt l i x)) ∧ Ev _ (needsGo l d (i + 1) (needAt l i x))
    generalize hq : needsGo l d (i + 1) (needAt l i x) = q at s1 s2 ⊢
    by_cases h1 : (rd_T98 l i).f0 = 1
    · have e : needAt l i x = x := by unfold needAt; rw [if_pos h1]
      rw [e] at s1 s2
      exact ⟨ev_step s1 fun k => by rw [spec_l15Needs.l0, if_pos (by omega), if_pos (by omega), if_pos (by omega), if_pos h1, next i (by omega)], ev_step s2 fun k => by rw [impl_needs.l0, if_pos (by omega), if_pos (by omega), if_pos (by omega), if_pos h1, next i (by omega)]⟩
    · obtain ⟨f0, f1⟩ := from_ok (ok i (by omega)) (by omega) h1
      by_cases h2 : (rd_T98 l (rd_T98 l i).f3).f1 = (rd_T98 l i).f1
      · have e : needAt l i x = x := by unfold needAt; rw [if_neg h1, if_pos h2]
        rw [e] at s1 s2
        exact ⟨ev_step s1 fun k => by rw [spec_l15Needs.l0, if_pos (by omega), if_pos (by omega), if_pos (by omega), if_neg h1, if_pos f0, if_pos (by omega), if_pos h2, next i (by omega)], ev_step s2 fun k => by rw [impl_needs.l0, if_pos (by omega), if_pos (by omega), if_pos (by omega), if_neg h1, if_pos f0, if_pos (by omega), if_pos h2, next i (by omega)]⟩
      · have e : needAt l i x = x.set (rd_T98 l i).f1.toNat (ins (rd_T98 l (rd_T98 l i).f3).f1 (rd_L3 x (rd_T98 l i).f1)) := by unfold needAt; rw [if_neg h1, if_neg h2]
        rw [e] at s1 s2
        refine ⟨Ev.step (f := fun k => (spec_l1Put.f k (rd_L3 x (rd_T98 l i).f1) (rd_T98 l (rd_T98 l i).f3).f1).bind fun t => spec_l15Needs.l0 k l (x.set (rd_T98 l i).f1.toNat t) l (l.length : Int) ((i + 1 : Nat) : Int)) (fun k => ?_) (ev_bind (put_tells _ _ (by omega)) s1), Ev.step (f := fun k => (impl_together.f k (rd_L3 x (rd_T98 l i).f1) [(rd_T98 l (rd_T98 l i).f3).f1]).bind fun t => impl_needs.l0 k l (x.set (rd_T98 l i).f1.toNat t) l (l.length : Int) ((i + 1 : Nat) : Int)) (fun k => ?_) ?_⟩
        · rw [spec_l15Needs.l0, if_pos (by omega), if_pos (by omega), if_pos (by omega), if_neg h1, if_pos f0, if_pos (by omega), if_neg h2, if_pos a, if_pos (by omega), next i (by omega)]
        · rw [impl_needs.l0, if_pos (by omega), if_pos (by omega), if_pos (by omega), if_neg h1, if_pos f0, if_pos (by omega), if_neg h2, if_pos a, if_pos (by omega), next i (by omega)]
        · refine ev_bind (together_tells _ _ (by omega) (by simp)) ?_
          rw [setOf_ins hup]
          exact s2
def needsOf (l : List S98) : List (List Int) := needsGo l l.length 0 (List.replicate 3 [])
theorem needsOf_tells (l : List S98) (hl : l.length ≤ 10) (ok : ∀ i, i < l.length → stepOk (rd_T98 l i) i = true) : Ev (fun k => spec_l15Needs.f k l) (needsOf l) ∧ Ev (fun k => impl_needs.f k l) (needsOf l) ∧ weigh (needsOf l) ≤ 1048576 := by
  have hz : ∀ r ∈ List.replicate 3 ([] : List Int), r = [] := fun r hr => (List.mem_replicate.1 hr).2
  have hu : ∀ r ∈ List.replicate 3 ([] : List Int), Up r := fun r hr => by rw [hz r hr]; exact List.Pairwise.nil
  have h0 : ∀ r ∈ List.replicate 3 ([] : List Int), r.length ≤ 0 := fun r hr => by rw [hz r hr]; simp
  obtain ⟨s1, s2⟩ := needs_both l hl ok l.length 0 (List.replicate 3 []) (by omega) (by simp) hu h0
  obtain ⟨n1, n2⟩ := needsGo_inv l l.length 0 (List.replicate 3 []) hu h0
  refine ⟨?_, ?_, ?_⟩
  · unfold spec_l15Needs.f
    exact ev_ite_pos (by omega) s1
  · unfold impl_needs.f
    exact ev_ite_pos (by omega) s2
  · have h := rows_sum _ (0 + l.length) n2
    unfold needsOf weigh
    rw [n1, List.length_replicate] at h ⊢
    omega

theorem needs_same (l : List S98) (hl : l.length ≤ 1048576) : ∃ x : List (List Int) × Bool, Ev (fun k => spec_NeedsOf.f k l) x ∧ Ev (fun k => impl_NeedsOf.f k l) x ∧ weigh x.1 ≤ 1048576 := by
  have g1 := sgoodsteps_tells l hl
  have g2 := goodsteps_tells l hl
  unfold spec_NeedsOf.f impl_NeedsOf.f
  cases h2 : stepsB l with
  | false =>
    exact ⟨([], false), ev_bind g1 (ev_ite_neg (by simp [h2]) (ev_some fun _ => rfl)), ev_bind g2 (ev_ite_neg (by simp [h2]) (ev_some fun _ => rfl)), by simp [weigh]⟩
  | true =>
    obtain ⟨ok, h10⟩ := stepsB_ok h2
    obtain ⟨s1, s2, hw⟩ := needsOf_tells l h10 ok
    generalize needsOf l = q at s1 s2 hw
    exact ⟨(q, true), ev_bind g1 (ev_ite_pos h2 (ev_bind s1 (ev_some fun _ => rfl))), ev_bind g2 (ev_ite_pos h2 (ev_bind s2 (ev_some fun _ => rfl))), hw⟩
theorem FnExactNeedsOf : laws_FnExactNeedsOf.Good := by
  intro l0 ⟨hm, _⟩
  unfold laws_FnExactNeedsOf.Pass
  have hsz := szstep l0 hm
  by_cases hg : 1048576 < (l0.length : Int)
  · rw [if_pos hg] at hsz
    exact ⟨0, -1, hsz, .inl (by omega)⟩
  rw [if_neg hg] at hsz
  have hT := toStep_tells l0 (by omega)
  have hl : (l0.map convStep).length ≤ 1048576 := by simp; omega
  generalize l0.map convStep = t at hT hl
  obtain ⟨⟨x, b⟩, hs, hi, hw⟩ := needs_same t hl
  simp only at hw
  obtain ⟨r, hr⟩ := markStep_tells t 1 (by omega) (by omega) hl
  have m1 := markss_tells x 1 hw (by omega) (by omega)
  have h1 := heldss_tells x 1 hw (by omega) (by omega)
  exact (((Evs.ev hT).and ((Evs.ev hs).and ((Evs.ev hi).and ((Evs.ev (eqss_weigh x hw)).and ((Evs.ev (eqStep_tells t (by omega))).and ((Evs.ev hr).and ((Evs.ev m1).and (Evs.ev h1)))))))).mono fun k ⟨d1, d2, d3, d4, d5, d6, d7, d8⟩ => ⟨_, hsz, .inr ⟨by omega, t, x, b, _, _, _, _, d1, d2, d3, d4, d5, d6, d7, d8, by omega, by omega⟩⟩).now

end Go.Proofs.Ytbaojaadmooogaa.Pure
