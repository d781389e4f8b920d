/- The law FnExactGoodSteps: the program's function tells what the reference tells, for all arguments; here: of the two as plain functions of numbers and lists. -/
import Derived.Test.YtmhmemiombcmnaaQFnExactGoodSteps
namespace Go.Proofs.Ytmhmemiombcmnaa.Pure
open Go.RowKit Go.Proofs.Ytmhmemiombcmnaa.PFnExactGoodSteps Go.Proofs.YtmhmemiombcmnaaW.PrintWords Go.Proofs.YtmhmemiombcmnaaW.PrintLast Go.Proofs.YtmhmemiombcmnaaW.PrintMore
set_option linter.unusedVariables false
set_option linter.unusedSimpArgs false

theorem w64 {i : Int} (h0 : -9223372036854775808 ≤ i) (h1 : i ≤ 9223372036854775807) : wrap64 i = i := by
  unfold wrap64
  omega

theorem rdn (l : List Int) (i : Nat) : rd l (i : Int) = l.getD i 0 := by simp [rd]

/-- A round of a loop, then what it comes to. -/
theorem ev_step {α : Type} {g f : Nat → Option α} {r : α} (k : Ev f r) (h : ∀ k, g (k + 1) = f k) : Ev g r := Ev.step h k
theorem ev_some {α : Type} {g : Nat → Option α} {r : α} (h : ∀ k, g k = some r) : Ev g r := ⟨0, fun k _ => h k⟩
theorem ev_stop {α : Type} {g : Nat → Option α} {r : α} (h : ∀ k, g (k + 1) = some r) : Ev g r := Ev.step h (Ev.now r)
theorem ev_bind {α β : Type} {g : Nat → Option α} {f : Nat → α → Option β} {a : α} {r : β} (h : Ev g a) (k : Ev (fun n => f n a) r) : Ev (fun n => (g n).bind (f n)) r := Ev.bind h k
theorem ev_some_bind {α β : Type} {g : Option α} {f : Nat → α → Option β} {a : α} {r : β} (h : g = some a) (k : Ev (fun n => f n a) r) : Ev (fun n => g.bind (f n)) r := by
  subst h
  exact k
theorem ev_ite_pos {α : Type} {c : Prop} [Decidable c] {g f : Nat → Option α} {r : α} (hc : c) (h : Ev g r) : Ev (fun n => if c then g n else f n) r := Ev.congr (fun _ => if_pos hc) h
theorem ev_ite_neg {α : Type} {c : Prop} [Decidable c] {g f : Nat → Option α} {r : α} (hc : ¬ c) (h : Ev f r) : Ev (fun n => if c then g n else f n) r := Ev.congr (fun _ => if_neg hc) h

theorem sin_tells (a b c : Int) : spec_l1In.f a b c = some (decide (b ≤ a) && decide (a ≤ c)) := by
  unfold spec_l1In.f
  by_cases h : a ≥ b
  · rw [if_pos h]; simp [show b ≤ a from h]
  · rw [if_neg h]; simp [show ¬ b ≤ a from h]

theorem within_tells (a b c : Int) : impl_within.f a b c = some (decide (b ≤ a) && decide (a ≤ c)) := by
  unfold impl_within.f
  by_cases h : a ≥ b
  · rw [if_pos h]; simp [show b ≤ a from h]
  · rw [if_neg h]; simp [show ¬ b ≤ a from h]

def inB (a b x : Int) : Bool := decide (a ≤ x) && decide (x ≤ b)
theorem drop_at (l : List Int) (i : Nat) (h : i < l.length) : l.drop i = l.getD i 0 :: l.drop (i + 1) := by
  rw [List.drop_eq_getElem_cons h]
  simp [List.getD, List.getElem?_eq_getElem h]
/-- What a search for a fault comes to, round by round. -/
theorem all_ends {F : Nat → Nat → Option Bool} {p : Nat → Bool} {r : Bool} {n : Nat} (stop : Ev (fun k => F k n) r) (go : ∀ i, i < n → p i = true → ∀ q, Ev (fun k => F k (i + 1)) q → Ev (fun k => F k i) q) (no : ∀ i, i < n → p i = false → Ev (fun k => F k i) false) :
    ∀ (d i : Nat), i + d = n → Ev (fun k => F k i) ((List.range' i d).all p && r)
  | 0, i, h => by
    obtain rfl : i = n := by omega
    simpa using stop
  | d + 1, i, h => by
    have ih := all_ends stop go no d (i + 1) (by omega)
    rw [List.range'_succ, List.all_cons, Bool.and_assoc]
    cases hp : p i with
    | true => simpa using go i (by omega) hp _ ih
    | false => simpa using no i (by omega) hp
theorem all_from {F : Nat → Nat → Option Bool} {p : Nat → Bool} {r : Bool} {n : Nat} (stop : Ev (fun k => F k n) r) (go : ∀ i, i < n → p i = true → ∀ q, Ev (fun k => F k (i + 1)) q → Ev (fun k => F k i) q) (no : ∀ i, i < n → p i = false → Ev (fun k => F k i) false) :
    Ev (fun k => F k 0) ((List.range n).all p && r) := by
  rw [List.range_eq_range']
  exact all_ends stop go no n 0 (by omega)
theorem next (i : Nat) (h : i < 4611686018427387904) : wrap64 ((i : Int) + 1) = ((i + 1 : Nat) : Int) := by
  rw [w64 (by omega) (by omega)]
  omega

def convStep (x : S94) : S92 := ⟨x.f0, x.f1, x.f2, x.f3, x.f4⟩
theorem toStep_l (l : List S94) (hl : l.length ≤ 4611686018427387903) : ∀ (d i : Nat) (m : List S92), m.length = l.length → i + d = l.length → m.take i = (l.map convStep).take i → Ev (fun k => laws_toStepS.l0 k l m (i : Int)) (l.map convStep)
  | 0, i, m, hm, h, ht => ev_stop fun k => by
    rw [laws_toStepS.l0, if_neg (by omega)]
    rw [List.take_of_length_le (by omega), List.take_of_length_le (by simp; omega)] at ht
    rw [ht]
  | d + 1, i, m, hm, h, ht => by
    refine ev_step (toStep_l l hl d (i + 1) (m.set i (convStep (l.getD i z94))) (by simpa using hm) (by omega) ?_) fun k => by
      rw [laws_toStepS.l0, if_pos (by omega), if_pos (by omega)]
      unfold laws_toStep.f
      rw [Option.bind_some, if_pos (by omega), next i (by omega)]
      rfl
    rw [List.take_succ_eq_append_getElem (by simp; omega), List.take_succ_eq_append_getElem (by simp; omega), List.take_set_of_le (Nat.le_refl i), ht]
    simp [List.getD, List.getElem?_eq_getElem (show i < l.length by omega)]
theorem toStep_tells (l : List S94) (hl : l.length ≤ 1048576) : Ev (fun k => laws_toStepS.f k l) (l.map convStep) := by
  refine Ev.congr (g := fun k => laws_toStepS.f k l) (fun k => ?_) (toStep_l l (by omega) l.length 0 (List.replicate l.length z92) (by simp) (by omega) (by simp))
  unfold laws_toStepS.f
  rw [if_pos (by omega), if_pos (by omega), Int.toNat_natCast]
  rfl
theorem eqStep_l (l : List S92) (hl : l.length ≤ 4611686018427387903) : ∀ (d i : Nat), i + d = l.length → Ev (fun k => laws_eqStepS.l0 k l l (i : Int)) true
  | 0, i, h => ev_stop fun k => by
    rw [laws_eqStepS.l0, if_neg (by omega)]
  | d + 1, i, h => by
    refine ev_step (eqStep_l l hl d (i + 1) (by omega)) fun k => by
      rw [laws_eqStepS.l0, if_pos (by omega), if_pos (by omega), if_pos (by omega)]
      unfold laws_eqStep.f
      simp [next i (by omega)]
theorem eqStep_tells (l : List S92) (hl : l.length ≤ 4611686018427387903) : Ev (fun k => laws_eqStepS.f k l l) true := by
  refine Ev.congr (g := fun k => laws_eqStepS.f k l l) (fun k => ?_) (eqStep_l l hl l.length 0 (by omega))
  unfold laws_eqStepS.f
  rw [if_pos rfl]
  rfl

def stepOk (s : S92) (i : Int) : Bool :=
  (inB 0 2 s.f1 && inB 0 3 s.f2) && (if s.f0 = 1 then (decide (s.f3 = 0) && decide (s.f4 = 0)) else if s.f0 = 2 then (decide (s.f2 = 0) && (inB 0 (wrap64 (i - 1)) s.f3 && inB (-99) 99 s.f4)) else if s.f0 = 3 then (inB 0 (wrap64 (i - 1)) s.f3 && decide (s.f4 = 0)) else false)
def stepsB (l : List S92) : Bool := (List.range l.length).all (fun i => stepOk (rd_T92 l i) i) && decide (l.length ≤ 10)
theorem isStep_tells (k : Nat) (s : S92) (i : Int) : impl_isStep.f (k + 1) s.f0 s.f1 s.f2 s.f3 s.f4 i = some (stepOk s i) := by
  unfold impl_isStep.f stepOk
  simp only [within_tells, Option.bind_some, impl_isStep.j0]
  unfold inB
  cases (decide (0 ≤ s.f1) && decide (s.f1 ≤ 2)) with
  | false => simp
  | true =>
    cases (decide (0 ≤ s.f2) && decide (s.f2 ≤ 3)) with
    | false => simp
    | true =>
      by_cases h1 : s.f0 = 1
      · by_cases h2 : s.f3 = 0 <;> simp [h1, h2] <;> rfl
      · by_cases h2 : s.f0 = 2
        · by_cases h3 : s.f2 = 0
          · cases h4 : (decide (0 ≤ s.f3) && decide (s.f3 ≤ wrap64 (i - 1))) <;> simp [h1, h2, h3, h4]
          · simp [h1, h2, h3]
        · by_cases h3 : s.f0 = 3
          · cases h4 : (decide (0 ≤ s.f3) && decide (s.f3 ≤ wrap64 (i - 1))) <;> simp [h1, h2, h3, h4] <;> rfl
          · simp [h1, h2, h3]
theorem goodsteps_tells (l : List S92) (hl : l.length ≤ 1048576) : Ev (fun k => impl_GoodSteps.f k l) (stepsB l) := by
  have round : ∀ (i : Nat), i < l.length → ∀ q, Ev (fun k => if stepOk (rd_T92 l i) i = true then impl_GoodSteps.l0 k l l (l.length : Int) ((i + 1 : Nat) : Int) else some false) q → Ev (fun k => impl_GoodSteps.l0 k l l (l.length : Int) (i : Int)) q := by
    intro i hi q hq
    refine Ev.step (f := fun k => (impl_isStep.f k (rd_T92 l i).f0 (rd_T92 l i).f1 (rd_T92 l i).f2 (rd_T92 l i).f3 (rd_T92 l i).f4 i).bind fun t => if t = true then impl_GoodSteps.l0 k l l (l.length : Int) ((i + 1 : Nat) : Int) else some false) (fun k => ?_) ?_
    · rw [impl_GoodSteps.l0, if_pos (by omega), if_pos (by omega), if_pos (by omega), next i (by omega)]
    · exact ev_bind (Ev.step (fun k => isStep_tells k _ _) (Ev.now _)) hq
  refine all_from (F := fun k i => impl_GoodSteps.l0 k l l (l.length : Int) (i : Int)) (ev_stop fun k => ?_) (fun i hi hp q hq => round i hi q ?_) (fun i hi hp => round i hi _ ?_)
  · rw [impl_GoodSteps.l0, if_neg (by omega)]
    congr 1
    exact decide_eq_decide.2 (by omega)
  · exact ev_ite_pos hp hq
  · exact ev_ite_neg (by simp [hp]) (ev_some fun _ => rfl)
theorem sgood_j (k : Nat) (l x6 : List S92) (n i : Int) (s : S92) : spec_GoodSteps.j1 (k + 1) l i x6 n i (!(inB 0 2 s.f1 && inB 0 3 s.f2 && inB (-99) 99 s.f4)) s.f0 s.f1 s.f2 s.f3 s.f4 = if stepOk s i = true then spec_GoodSteps.l0 k l x6 n (wrap64 (i + 1)) else some false := by
  rw [spec_GoodSteps.j1]
  unfold stepOk
  rw [sin_tells, Option.bind_some]
  change (if (!(inB 0 2 s.f1 && inB 0 3 s.f2 && inB (-99) 99 s.f4)) = true then _ else if s.f0 = 1 then _ else if s.f0 = 2 then if inB 0 (wrap64 (i - 1)) s.f3 = true then _ else _ else if s.f0 = 3 then if inB 0 (wrap64 (i - 1)) s.f3 = true then _ else _ else _) = _
  have h0 : inB (-99) 99 0 = true := by decide
  cases inB 0 2 s.f1 <;> cases inB 0 3 s.f2 <;> try (simp; done)
  by_cases h1 : s.f0 = 1
  · by_cases h4 : s.f4 = 0
    · by_cases h3 : s.f3 = 0 <;> simp [h1, h3, h4, h0]
    · cases inB (-99) 99 s.f4 <;> simp [h1, h4]
  · by_cases h2 : s.f0 = 2
    · cases inB (-99) 99 s.f4 <;> cases inB 0 (wrap64 (i - 1)) s.f3 <;> by_cases h3 : s.f2 = 0 <;> simp [h1, h2, h3]
    · by_cases h3 : s.f0 = 3
      · by_cases h4 : s.f4 = 0
        · cases inB 0 (wrap64 (i - 1)) s.f3 <;> simp [h1, h2, h3, h4, h0]
        · cases inB (-99) 99 s.f4 <;> simp [h1, h2, h3, h4]
      · simp [h1, h2, h3]
theorem sgoodsteps_tells (l : List S92) (hl : l.length ≤ 1048576) : Ev (fun k => spec_GoodSteps.f k l) (stepsB l) := by
  have round : ∀ (i : Nat), i < l.length → ∀ q, Ev (fun k => if stepOk (rd_T92 l i) i = true then spec_GoodSteps.l0 k l l (l.length : Int) ((i + 1 : Nat) : Int) else some false) q → Ev (fun k => spec_GoodSteps.l0 k l l (l.length : Int) (i : Int)) q := by
    intro i hi q hq
    generalize hs : rd_T92 l i = s at hq
    refine Ev.step (f := fun k => spec_GoodSteps.j1 k l i l (l.length : Int) i (!(inB 0 2 s.f1 && inB 0 3 s.f2 && inB (-99) 99 s.f4)) s.f0 s.f1 s.f2 s.f3 s.f4) (fun k => ?_) (Ev.step (fun k => by rw [sgood_j, next i (by omega)]) hq)
    rw [spec_GoodSteps.l0, if_pos (by omega), if_pos (by omega), if_pos (by omega), hs]
    simp only [sin_tells, Option.bind_some]
    change (if inB 0 2 s.f1 = true then if inB 0 3 s.f2 = true then spec_GoodSteps.j1 _ _ _ _ _ _ (!(inB (-99) 99 s.f4)) _ _ _ _ _ else _ else _) = _
    cases inB 0 2 s.f1 <;> cases inB 0 3 s.f2 <;> simp
  refine all_from (F := fun k i => spec_GoodSteps.l0 k l l (l.length : Int) (i : Int)) (ev_stop fun k => ?_) (fun i hi hp q hq => round i hi q ?_) (fun i hi hp => round i hi _ ?_)
  · rw [spec_GoodSteps.l0, if_neg (by omega)]
    congr 1
    exact decide_eq_decide.2 (by omega)
  · exact ev_ite_pos hp hq
  · exact ev_ite_neg (by simp [hp]) (ev_some fun _ => rfl)

theorem szstep (l : List S94) (hl : l.length ≤ maxLen) : laws_szStepS.f l 1048576 = some (if 1048576 < (l.length : Int) then -1 else 1048576 - (l.length : Int)) := by
  have hm : maxLen ≤ 9223372036854775807 := by decide
  unfold laws_szStepS.f
  rw [w64 (by omega) (by omega)]
  split <;> split <;> first | rfl | omega

theorem FnExactGoodSteps : laws_FnExactGoodSteps.Good := by
  intro l0 ⟨hm, _⟩
  refine Ev.rounds ?_
  unfold laws_FnExactGoodSteps.f
  rw [szstep l0 hm]
  refine Ev.congr (fun k => Option.bind_some ..) ?_
  by_cases hg : 1048576 < (l0.length : Int)
  · rw [if_pos hg]
    exact ev_ite_pos (by decide) (ev_some fun _ => rfl)
  rw [if_neg hg]
  refine ev_ite_neg (by omega) ?_
  have hT := toStep_tells l0 (by omega)
  have hl : (l0.map convStep).length ≤ 1048576 := by simp; omega
  refine ev_bind hT (ev_bind (sgoodsteps_tells _ hl) (ev_bind hT (ev_bind (goodsteps_tells _ hl) ?_)))
  refine ev_ite_neg (by simp) (ev_bind hT (ev_bind (eqStep_tells _ (by omega)) (ev_some fun _ => rfl)))

end Go.Proofs.Ytmhmemiombcmnaa.Pure
