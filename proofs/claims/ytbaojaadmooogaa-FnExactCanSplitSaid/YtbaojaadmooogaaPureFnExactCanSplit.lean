/- The law FnExactCanSplit: the program's function tells what the reference tells, for all arguments; here: of the two as plain functions of numbers and lists. -/
import Derived.Test.YtbaojaadmooogaaQFnExactCanSplit
namespace Go.Proofs.Ytbaojaadmooogaa.Pure
open Go.RowKit Go.Proofs.Ytbaojaadmooogaa.PFnExactCanSplit Go.Proofs.YtbaojaadmooogaaW.PrintWords Go.Proofs.YtbaojaadmooogaaW.PrintLast Go.Proofs.YtbaojaadmooogaaW.PrintMore
set_option linter.unusedVariables false
set_option linter.unusedSimpArgs false
set_option linter.unnecessarySimpa false

theorem sin_tells (a b c : Int) : spec_l1In.f a b c = some (decide (b ≤ a) && decide (a ≤ c)) := by
  unfold spec_l1In.f
  by_cases h : a ≥ b
  · rw [if_pos h]; simp [show b ≤ a from h]
  · rw [if_neg h]; simp [show ¬ b ≤ a from h]

def inB (a b x : Int) : Bool := decide (a ≤ x) && decide (x ≤ b)
theorem drop_at (l : List Int) (i : Nat) (h : i < l.length) : l.drop i = l.getD i 0 :: l.drop (i + 1) := by
  rw [List.drop_eq_getElem_cons h]
  simp [List.getD, List.getElem?_eq_getElem h]
/-- What a search for a fault comes to, round by round. -/
theorem all_ends {F : Nat → Nat → Option Bool} {p : Nat → Bool} {r : Bool} {n : Nat} (stop : Ev (fun k => F k n) r) (go : ∀ i, i < n → p i = true → ∀ q, Ev (fun k => F k (i + 1)) q → Ev (fun k => F k i) q) (no : ∀ i, i < n → p i = false → Ev (fun k => F k i) false) :
    ∀ (d i : Nat), i + d = n → Ev (fun k => F k i) ((List.range' i d).all p && r)
  | 0, i, h => by
    obtain rfl : i = n := by omega
    simpa using stop
  | d + 1, i, h => by
    have ih := all_ends stop go no d (i + 1) (by omega)
    rw [List.range'_succ, List.all_cons, Bool.and_assoc]
    cases hp : p i with
    | true => simpa using go i (by omega) hp _ ih
    | false => simpa using no i (by omega) hp
theorem all_from {F : Nat → Nat → Option Bool} {p : Nat → Bool} {r : Bool} {n : Nat} (stop : Ev (fun k => F k n) r) (go : ∀ i, i < n → p i = true → ∀ q, Ev (fun k => F k (i + 1)) q → Ev (fun k => F k i) q) (no : ∀ i, i < n → p i = false → Ev (fun k => F k i) false) :
    Ev (fun k => F k 0) ((List.range n).all p && r) := by
  rw [List.range_eq_range']
  exact all_ends stop go no n 0 (by omega)
theorem next (i : Nat) (h : i < 4611686018427387904) : wrap64 ((i : Int) + 1) = ((i + 1 : Nat) : Int) := by
  rw [w64 (by omega) (by omega)]
  omega

def convStep (x : S100) : S98 := ⟨x.f0, x.f1, x.f2, x.f3, x.f4⟩
theorem toStep_l (l : List S100) (hl : l.length ≤ 4611686018427387903) : ∀ (d i : Nat) (m : List S98), m.length = l.length → i + d = l.length → m.take i = (l.map convStep).take i → Ev (fun k => laws_toStepS.l0 k l m (i : Int)) (l.map convStep)
  | 0, i, m, hm, h, ht => ev_stop fun k => by
    rw [laws_toStepS.l0, if_neg (by omega)]
    rw [List.take_of_length_le (by omega), List.take_of_length_le (by simp; omega)] at ht
    rw [ht]
  | d + 1, i, m, hm, h, ht => by
    refine ev_step (toStep_l l hl d (i + 1) (m.set i (convStep (l.getD i z100))) (by simpa using hm) (by omega) ?_) fun k => by
      rw [laws_toStepS.l0, if_pos (by omega), if_pos (by omega)]
      unfold laws_toStep.f
      rw [Option.bind_some, if_pos (by omega), next i (by omega)]
      rfl
    rw [List.take_succ_eq_append_getElem (by simp; omega), List.take_succ_eq_append_getElem (by simp; omega), List.take_set_of_le (Nat.le_refl i), ht]
    simp [List.getD, List.getElem?_eq_getElem (show i < l.length by omega)]
theorem toStep_tells (l : List S100) (hl : l.length ≤ 1048576) : Ev (fun k => laws_toStepS.f k l) (l.map convStep) := by
  refine Ev.congr (g := fun k => laws_toStepS.f k l) (fun k => ?_) (toStep_l l (by omega) l.length 0 (List.replicate l.length z98) (by simp) (by omega) (by simp))
  unfold laws_toStepS.f
  rw [if_pos (by omega), if_pos (by omega), Int.toNat_natCast]
  rfl
theorem eqStep_l (l : List S98) (hl : l.length ≤ 4611686018427387903) : ∀ (d i : Nat), i + d = l.length → Ev (fun k => laws_eqStepS.l0 k l l (i : Int)) true
  | 0, i, h => ev_stop fun k => by
    rw [laws_eqStepS.l0, if_neg (by omega)]
  | d + 1, i, h => by
    refine ev_step (eqStep_l l hl d (i + 1) (by omega)) fun k => by
      rw [laws_eqStepS.l0, if_pos (by omega), if_pos (by omega), if_pos (by omega)]
      unfold laws_eqStep.f
      simp [next i (by omega)]
theorem eqStep_tells (l : List S98) (hl : l.length ≤ 4611686018427387903) : Ev (fun k => laws_eqStepS.f k l l) true := by
  refine Ev.congr (g := fun k => laws_eqStepS.f k l l) (fun k => ?_) (eqStep_l l hl l.length 0 (by omega))
  unfold laws_eqStepS.f
  rw [if_pos rfl]
  rfl

def stepOk (s : S98) (i : Int) : Bool :=
  (inB 0 2 s.f1 && inB 0 3 s.f2) && (if s.f0 = 1 then (decide (s.f3 = 0) && decide (s.f4 = 0)) else if s.f0 = 2 then (decide (s.f2 = 0) && (inB 0 (wrap64 (i - 1)) s.f3 && inB (-99) 99 s.f4)) else if s.f0 = 3 then (inB 0 (wrap64 (i - 1)) s.f3 && decide (s.f4 = 0)) else false)
def stepsB (l : List S98) : Bool := (List.range l.length).all (fun i => stepOk (rd_T98 l i) i) && decide (l.length ≤ 10)
theorem isStep_tells (k : Nat) (s : S98) (i : Int) : impl_isStep.f (k + 1) s.f0 s.f1 s.f2 s.f3 s.f4 i = some (stepOk s i) := by
  unfold impl_isStep.f stepOk
  simp only [within_tells, Option.bind_some, impl_isStep.j0]
  unfold inB
  cases (decide (0 ≤ s.f1) && decide (s.f1 ≤ 2)) with
  | false => simp
  | true =>
    cases (decide (0 ≤ s.f2) && decide (s.f2 ≤ 3)) with
    | false => simp
    | true =>
      by_cases h1 : s.f0 = 1
      · by_cases h2 : s.f3 = 0 <;> simp [h1, h2] <;> rfl
      · by_cases h2 : s.f0 = 2
        · by_cases h3 : s.f2 = 0
          · cases h4 : (decide (0 ≤ s.f3) && decide (s.f3 ≤ wrap64 (i - 1))) <;> simp [h1, h2, h3, h4]
          · simp [h1, h2, h3]
        · by_cases h3 : s.f0 = 3
          · cases h4 : (decide (0 ≤ s.f3) && decide (s.f3 ≤ wrap64 (i - 1))) <;> simp [h1, h2, h3, h4] <;> rfl
          · simp [h1, h2, h3]
theorem goodsteps_tells (l : List S98) (hl : l.length ≤ 1048576) : Ev (fun k => impl_GoodSteps.f k l) (stepsB l) := by
  have round : ∀ (i : Nat), i < l.length → ∀ q, Ev (fun k => if stepOk (rd_T98 l i) i = true then impl_GoodSteps.l0 k l l (l.length : Int) ((i + 1 : Nat) : Int) else some false) q → Ev (fun k => impl_GoodSteps.l0 k l l (l.length : Int) (i : Int)) q := by
    intro i hi q hq
    refine Ev.step (f := fun k => (impl_isStep.f k (rd_T98 l i).f0 (rd_T98 l i).f1 (rd_T98 l i).f2 (rd_T98 l i).f3 (rd_T98 l i).f4 i).bind fun t => if t = true then impl_GoodSteps.l0 k l l (l.length : Int) ((i + 1 : Nat) : Int) else some false) (fun k => ?_) ?_
    · rw [impl_GoodSteps.l0, if_pos (by omega), if_pos (by omega), if_pos (by omega), next i (by omega)]
    · exact ev_bind (Ev.step (fun k => isStep_tells k _ _) (Ev.now _)) hq
  refine all_from (F := fun k i => impl_GoodSteps.l0 k l l (l.length : Int) (i : Int)) (ev_stop fun k => ?_) (fun i hi hp q hq => round i hi q ?_) (fun i hi hp => round i hi _ ?_)
  · rw [impl_GoodSteps.l0, if_neg (by omega)]
    congr 1
    exact decide_eq_decide.2 (by omega)
  · exact ev_ite_pos hp hq
  · exact ev_ite_neg (by simp [hp]) (ev_some fun _ => rfl)
theorem sgood_j (k : Nat) (l x6 : List S98) (n i : Int) (s : S98) : spec_GoodSteps.j1 (k + 1) l i x6 n i (!(inB 0 2 s.f1 && inB 0 3 s.f2 && inB (-99) 99 s.f4)) s.f0 s.f1 s.f2 s.f3 s.f4 = if stepOk s i = true then spec_GoodSteps.l0 k l x6 n (wrap64 (i + 1)) else some false := by
  rw [spec_GoodSteps.j1]
  unfold stepOk
  rw [sin_tells, Option.bind_some]
  change (if (!(inB 0 2 s.f1 && inB 0 3 s.f2 && inB (-99) 99 s.f4)) = true then _ else if s.f0 = 1 then _ else if s.f0 = 2 then if inB 0 (wrap64 (i - 1)) s.f3 = true then _ else _ else if s.f0 = 3 then if inB 0 (wrap64 (i - 1)) s.f3 = true then _ else _ else _) = _
  have h0 : inB (-99) 99 0 = true := by decide
  cases inB 0 2 s.f1 <;> cases inB 0 3 s.f2 <;> try (simp; done)
  by_cases h1 : s.f0 = 1
  · by_cases h4 : s.f4 = 0
    · by_cases h3 : s.f3 = 0 <;> simp [h1, h3, h4, h0]
    · cases inB (-99) 99 s.f4 <;> simp [h1, h4]
  · by_cases h2 : s.f0 = 2
    · cases inB (-99) 99 s.f4 <;> cases inB 0 (wrap64 (i - 1)) s.f3 <;> by_cases h3 : s.f2 = 0 <;> simp [h1, h2, h3]
    · by_cases h3 : s.f0 = 3
      · by_cases h4 : s.f4 = 0
        · cases inB 0 (wrap64 (i - 1)) s.f3 <;> simp [h1, h2, h3, h4, h0]
        · cases inB (-99) 99 s.f4 <;> simp [h1, h2, h3, h4]
      · simp [h1, h2, h3]
theorem sgoodsteps_tells (l : List S98) (hl : l.length ≤ 1048576) : Ev (fun k => spec_GoodSteps.f k l) (stepsB l) := by
  have round : ∀ (i : Nat), i < l.length → ∀ q, Ev (fun k => if stepOk (rd_T98 l i) i = true then spec_GoodSteps.l0 k l l (l.length : Int) ((i + 1 : Nat) : Int) else some false) q → Ev (fun k => spec_GoodSteps.l0 k l l (l.length : Int) (i : Int)) q := by
    intro i hi q hq
    generalize hs : rd_T98 l i = s at hq
    refine Ev.step (f := fun k => spec_GoodSteps.j1 k l i l (l.length : Int) i (!(inB 0 2 s.f1 && inB 0 3 s.f2 && inB (-99) 99 s.f4)) s.f0 s.f1 s.f2 s.f3 s.f4) (fun k => ?_) (Ev.step (fun k => by rw [sgood_j, next i (by omega)]) hq)
    rw [spec_GoodSteps.l0, if_pos (by omega), if_pos (by omega), if_pos (by omega), hs]
    simp only [sin_tells, Option.bind_some]
    change (if inB 0 2 s.f1 = true then if inB 0 3 s.f2 = true then spec_GoodSteps.j1 _ _ _ _ _ _ (!(inB (-99) 99 s.f4)) _ _ _ _ _ else _ else _) = _
    cases inB 0 2 s.f1 <;> cases inB 0 3 s.f2 <;> simp
  refine all_from (F := fun k i => spec_GoodSteps.l0 k l l (l.length : Int) (i : Int)) (ev_stop fun k => ?_) (fun i hi hp q hq => round i hi q ?_) (fun i hi hp => round i hi _ ?_)
  · rw [spec_GoodSteps.l0, if_neg (by omega)]
    congr 1
    exact decide_eq_decide.2 (by omega)
  · exact ev_ite_pos hp hq
  · exact ev_ite_neg (by simp [hp]) (ev_some fun _ => rfl)
theorem stepsB_ok {l : List S98} (h : stepsB l = true) : (∀ i, i < l.length → stepOk (rd_T98 l i) i = true) ∧ l.length ≤ 10 := by
  unfold stepsB at h
  simp only [Bool.and_eq_true, List.all_eq_true, List.mem_range, decide_eq_true_eq] at h
  exact h

theorem szstep (l : List S100) (hl : l.length ≤ maxLen) : laws_szStepS.f l 1048576 = some (if 1048576 < (l.length : Int) then -1 else 1048576 - (l.length : Int)) := by
  have hm : maxLen ≤ 9223372036854775807 := by decide
  unfold laws_szStepS.f
  rw [w64 (by omega) (by omega)]
  split <;> split <;> first | rfl | omega

theorem rows_sum : ∀ (l : List (List Int)) (n : Nat), (∀ r ∈ l, r.length ≤ n) → (l.map List.length).sum ≤ l.length * n
  | [], n, _ => by simp
  | r :: l, n, h => by
    have h1 := h r (by simp)
    have h2 := rows_sum l n fun x hx => h x (List.mem_cons_of_mem _ hx)
    rw [List.map_cons, List.sum_cons, List.length_cons, Nat.add_mul]
    omega
theorem shard_ok {s : S98} {i : Int} (h : stepOk s i = true) : 0 ≤ s.f1 ∧ s.f1 < 3 := by
  unfold stepOk inB at h
  simp only [Bool.and_eq_true, decide_eq_true_eq] at h
  omega
theorem row_len (x : List (List Int)) (j : Int) (n : Nat) (h : ∀ r ∈ x, r.length ≤ n) : (rd_L3 x j).length ≤ n := by
  unfold rd_L3
  rw [List.getD]
  cases hq : x[j.toNat]? with
  | none => simp
  | some v => exact h v (List.mem_of_getElem? hq)

/-- A rising row: its numbers as a set. -/
abbrev Up (l : List Int) : Prop := l.Pairwise (· < ·)
theorem up_ext : ∀ {l m : List Int}, Up l → Up m → (∀ y, y ∈ l ↔ y ∈ m) → l = m
  | [], [], _, _, _ => rfl
  | [], b :: m, _, _, h => by simpa using (h b).2 (by simp)
  | a :: l, [], _, _, h => by simpa using (h a).1 (by simp)
  | a :: l, b :: m, hl, hm, h => by
    have l1 := List.pairwise_cons.1 hl
    have m1 := List.pairwise_cons.1 hm
    have e : a = b := by
      rcases List.mem_cons.1 ((h a).1 (by simp)) with e | e
      · exact e
      · rcases List.mem_cons.1 ((h b).2 (by simp)) with e2 | e2
        · exact e2.symm
        · have := l1.1 b e2
          have := m1.1 a e
          omega
    subst e
    congr 1
    refine up_ext l1.2 m1.2 fun y => ⟨fun hy => ?_, fun hy => ?_⟩
    · rcases List.mem_cons.1 ((h y).1 (List.mem_cons_of_mem _ hy)) with e | e
      · have := l1.1 y hy
        omega
      · exact e
    · rcases List.mem_cons.1 ((h y).2 (List.mem_cons_of_mem _ hy)) with e | e
      · have := m1.1 y hy
        omega
      · exact e
def ins (x : Int) : List Int → List Int
  | [] => [x]
  | a :: l => if a < x then a :: ins x l else if a = x then a :: l else x :: a :: l
theorem mem_ins (x y : Int) : ∀ l : List Int, y ∈ ins x l ↔ y = x ∨ y ∈ l
  | [] => by simp [ins]
  | a :: l => by
    unfold ins
    split
    · rw [List.mem_cons, mem_ins x y l, List.mem_cons]
      exact ⟨fun h => h.elim (fun h => .inr (.inl h)) (fun h => h.elim .inl (fun h => .inr (.inr h))), fun h => h.elim (fun h => .inr (.inl h)) (fun h => h.elim .inl (fun h => .inr (.inr h)))⟩
    · split
      · rename_i h
        subst h
        simp
      · simp
theorem up_ins (x : Int) : ∀ {l : List Int}, Up l → Up (ins x l)
  | [], _ => by simp [ins]
  | a :: l, h => by
    have h1 := List.pairwise_cons.1 h
    unfold ins
    split
    · rename_i hx
      refine List.pairwise_cons.2 ⟨fun y hy => ?_, up_ins x h1.2⟩
      rcases (mem_ins x y l).1 hy with e | e
      · omega
      · exact h1.1 y e
    · split
      · exact h
      · refine List.pairwise_cons.2 ⟨fun y hy => ?_, h⟩
        rcases List.mem_cons.1 hy with e | e
        · omega
        · have := h1.1 y e
          omega
theorem ins_len (x : Int) : ∀ l : List Int, (ins x l).length ≤ l.length + 1
  | [] => by simp [ins]
  | a :: l => by
    have := ins_len x l
    unfold ins
    split
    · simp; omega
    · split <;> simp
theorem upto_of {d : Array Int} (hs : ∀ i j, i ≤ j → j < d.size → d[i]! ≤ d[j]!) : ∀ m, m ≤ d.size → Up (Lib.compactUpTo d m) ∧ ∀ y, y ∈ Lib.compactUpTo d m ↔ ∃ j, j < m ∧ d[j]! = y
  | 0, _ => by simp [Lib.compactUpTo]
  | m + 1, hm => by
    obtain ⟨h1, h2⟩ := upto_of hs m (by omega)
    rw [Lib.compactUpTo_succ]
    by_cases hk : Lib.keeps d m = true
    · rw [if_pos hk]
      refine ⟨List.pairwise_append.2 ⟨h1, by simp, fun y hy z hz => ?_⟩, fun y => ?_⟩
      · obtain ⟨j, hj, rfl⟩ := (h2 y).1 hy
        obtain rfl : z = d[m]! := by simpa using hz
        have hne : d[m]! ≠ d[m - 1]! := by
          simp only [Lib.keeps, decide_eq_true_eq] at hk
          rcases hk with h | h
          · omega
          · exact h
        have a1 := hs j (m - 1) (by omega) (by omega)
        have a2 := hs (m - 1) m (by omega) (by omega)
        omega
      · rw [List.mem_append, h2]
        constructor
        · rintro (⟨j, hj, e⟩ | e)
          · exact ⟨j, by omega, e⟩
          · exact ⟨m, by omega, (List.mem_singleton.1 e).symm⟩
        · rintro ⟨j, hj, e⟩
          by_cases hjm : j < m
          · exact .inl ⟨j, hjm, e⟩
          · obtain rfl : j = m := by omega
            exact .inr (by simp [e])
    · rw [if_neg hk, List.append_nil]
      refine ⟨h1, fun y => ?_⟩
      rw [h2]
      have hk2 : m ≠ 0 ∧ d[m]! = d[m - 1]! := by simpa [Lib.keeps] using hk
      constructor
      · rintro ⟨j, hj, e⟩
        exact ⟨j, by omega, e⟩
      · rintro ⟨j, hj, e⟩
        by_cases hjm : j < m
        · exact ⟨j, hjm, e⟩
        · obtain rfl : j = m := by omega
          exact ⟨j - 1, by omega, by rw [← hk2.2]; exact e⟩
/-- Sorted, and each but once: the rising row of the numbers. -/
def setOf (l : List Int) : List Int := Lib.compact (l.mergeSort fun x y => decide (x ≤ y))
theorem sort_le (l : List Int) : (l.mergeSort fun x y => decide (x ≤ y)).Pairwise (· ≤ ·) := by
  have h := List.pairwise_mergeSort (le := fun x y : Int => decide (x ≤ y)) (fun a b c h1 h2 => by simp only [decide_eq_true_eq] at *; omega) (fun a b => by simp only [Bool.or_eq_true, decide_eq_true_eq]; omega) l
  exact h.imp (fun h => by simpa using h)
theorem setOf_up_mem (l : List Int) : Up (setOf l) ∧ ∀ y, y ∈ setOf l ↔ y ∈ l := by
  have hs := sort_le l
  have hm : ∀ y, y ∈ (l.mergeSort fun x y => decide (x ≤ y)) ↔ y ∈ l := fun y => List.mem_mergeSort
  unfold setOf
  generalize (l.mergeSort fun x y => decide (x ≤ y)) = s at hs hm
  unfold Lib.compact
  obtain ⟨h1, h2⟩ := upto_of (d := s.toArray) (fun i j hij hj => by
    have hj' : j < s.length := by simpa using hj
    rw [getElem!_pos s.toArray i (by simp; omega), getElem!_pos s.toArray j (by simp; omega)]
    simp only [List.getElem_toArray]
    by_cases e : i = j
    · subst e
      exact Int.le_refl _
    · exact List.pairwise_iff_getElem.1 hs i j (by omega) hj' (by omega)) s.length (by simp)
  refine ⟨h1, fun y => (h2 y).trans (Iff.trans ?_ (hm y))⟩
  constructor
  · rintro ⟨j, hj, e⟩
    rw [getElem!_pos s.toArray j (by simpa using hj)] at e
    rw [← e]
    simp
  · intro hy
    obtain ⟨j, hj, e⟩ := List.mem_iff_getElem.1 hy
    exact ⟨j, hj, by rw [getElem!_pos s.toArray j (by simpa using hj)]; simpa using e⟩
theorem setOf_ins {l : List Int} (h : Up l) (x : Int) : setOf (l ++ [x]) = ins x l := by
  obtain ⟨h1, h2⟩ := setOf_up_mem (l ++ [x])
  refine up_ext h1 (up_ins x h) fun y => (h2 y).trans ?_
  rw [mem_ins, List.mem_append, List.mem_singleton]
  exact Or.comm
theorem set_add {L : List Int} (x : Int) : setOf (L ++ [x]) = ins x (setOf L) := by
  obtain ⟨h1, h2⟩ := setOf_up_mem (L ++ [x])
  obtain ⟨h3, h4⟩ := setOf_up_mem L
  refine up_ext h1 (up_ins x h3) fun y => (h2 y).trans ?_
  rw [mem_ins, h4, List.mem_append, List.mem_singleton]
  exact Or.comm
theorem setOf_len (L : List Int) : (setOf L).length ≤ L.length := by
  unfold setOf
  exact Nat.le_trans (Lib.compact_length_le _) (by simp)
theorem sort_nodup {L : List Int} (h : L.Nodup) : (L.mergeSort fun x y => decide (x ≤ y)) = setOf L := by
  obtain ⟨h3, h4⟩ := setOf_up_mem L
  have hs := sort_le L
  have hp : (L.mergeSort fun x y => decide (x ≤ y)).Nodup := (List.mergeSort_perm L _).nodup_iff.2 h
  have hu : Up (L.mergeSort fun x y => decide (x ≤ y)) := by
    refine (List.pairwise_iff_getElem.2 fun i j hi hj hij => ?_)
    have a := List.pairwise_iff_getElem.1 hs i j hi hj hij
    have b := List.pairwise_iff_getElem.1 hp i j hi hj hij
    omega
  exact up_ext hu h3 fun y => List.mem_mergeSort.trans (h4 y).symm

theorem put_l (l : List Int) (x : Int) (hl : l.length ≤ 1000000000) : ∀ (d i : Nat), i + d = l.length → Ev (fun k => spec_l1Put.l0 k l x (i : Int)) (l.take i ++ ins x (l.drop i))
  | 0, i, h => ev_stop fun k => by
    rw [spec_l1Put.l0, if_neg (by omega)]
    simp only [Option.bind_some, Int.toNat_natCast, List.nil_append, List.length_nil, Nat.zero_add]
    rw [if_pos (by omega), if_pos (by omega), if_pos (by simp; omega), if_pos (by simp; omega), if_pos (by simp; omega), List.drop_of_length_le (by omega)]
    simp [ins]
  | d + 1, i, h => by
    have ih := put_l l x hl d (i + 1) (by omega)
    rw [drop_at l i (by omega), ins]
    have ha := drop_at l i (by omega)
    by_cases h1 : l.getD i 0 < x
    · rw [if_pos h1]
      refine ev_step (by
        have e : l.take (i + 1) = l.take i ++ [l.getD i 0] := by
          rw [List.take_succ_eq_append_getElem (by omega)]
          simp [List.getD, List.getElem?_eq_getElem (show i < l.length by omega)]
        rw [e, List.append_assoc] at ih
        exact ih) fun k => by
        rw [spec_l1Put.l0, if_pos (by omega), if_pos (by omega), rdn, if_pos h1, next i (by omega)]
    · rw [if_neg h1]
      by_cases h2 : l.getD i 0 = x
      · rw [if_pos h2]
        exact ev_stop fun k => by
          rw [spec_l1Put.l0, if_pos (by omega), if_pos (by omega), rdn, if_neg h1, if_pos h2, ← ha, List.take_append_drop]
      · rw [if_neg h2]
        exact ev_stop fun k => by
          rw [spec_l1Put.l0, if_pos (by omega), if_pos (by omega), rdn, if_neg h1, if_neg h2]
          simp only [Option.bind_some, Int.toNat_natCast, List.nil_append, List.length_nil, Nat.zero_add]
          rw [if_pos (by omega), if_pos (by simp; omega), if_pos (by simp; omega), if_pos (by simp; omega), ha]
          simp
theorem put_tells (l : List Int) (x : Int) (hl : l.length ≤ 1000000000) : Ev (fun k => spec_l1Put.f k l x) (ins x l) := by
  have h := put_l l x hl l.length 0 (by omega)
  rw [List.drop_zero, List.take_zero, List.nil_append] at h
  exact h

theorem rdL3 (l : List (List Int)) (i : Nat) : rd_L3 l (i : Int) = l.getD i [] := by simp [rd_L3]
theorem drop_row (l : List (List Int)) (i : Nat) (h : i < l.length) : l.drop i = l.getD i [] :: l.drop (i + 1) := by
  rw [List.drop_eq_getElem_cons h]
  simp [List.getD, List.getElem?_eq_getElem h]
theorem concat_l1 (ls : List (List Int)) (hl : ls.length ≤ 4611686018427387903) : ∀ (d i : Nat) (acc : List Int), i + d = ls.length → acc.length + (ls.drop i).flatten.length < 17592186044416 → Ev (fun k => slices_Concat_int_int.l1 k acc ls (ls.length : Int) (i : Int)) (acc ++ (ls.drop i).flatten)
  | 0, i, acc, h, _ => ev_stop fun k => by
    rw [slices_Concat_int_int.l1, if_neg (by omega), List.drop_of_length_le (by omega)]
    simp
  | d + 1, i, acc, h, hb => by
    rw [drop_row ls i (by omega), List.flatten_cons, List.length_append] at hb
    have ih := concat_l1 ls hl d (i + 1) (acc ++ ls.getD i []) (by omega) (by rw [List.length_append]; omega)
    rw [drop_row ls i (by omega), List.flatten_cons, ← List.append_assoc]
    exact ev_step ih fun k => by
      rw [slices_Concat_int_int.l1, if_pos (by omega), if_pos (by omega), if_pos (by omega), rdL3, if_pos (by omega), next i (by omega)]
theorem concat_l0 (ls : List (List Int)) (hl : ls.length ≤ 4611686018427387903) (r : List Int) (hr : Ev (fun k => slices_Concat_int_int.l1 k [] ls (ls.length : Int) 0) r) : ∀ (d i : Nat) (s : Int), i + d = ls.length → 0 ≤ s → s + (ls.drop i).flatten.length < 17592186044416 → Ev (fun k => slices_Concat_int_int.l0 k ls s ls (ls.length : Int) (i : Int)) r
  | 0, i, s, h, h0, hb => by
    refine ev_step hr fun k => ?_
    rw [slices_Concat_int_int.l0, if_neg (by omega)]
    unfold slices_Grow_int_int.f
    rw [if_pos ⟨h0, by simp; omega⟩, Option.bind_some]
  | d + 1, i, s, h, h0, hb => by
    rw [drop_row ls i (by omega), List.flatten_cons, List.length_append] at hb
    have ih := concat_l0 ls hl r hr d (i + 1) (s + (ls.getD i []).length) (by omega) (by omega) (by omega)
    exact ev_step ih fun k => by
      rw [slices_Concat_int_int.l0, if_pos (by omega), if_pos (by omega), if_pos (by omega), rdL3, w64 (by omega) (by omega), if_neg (by omega), next i (by omega)]
theorem concat_tells (ls : List (List Int)) (hl : ls.length ≤ 4611686018427387903) (hb : ls.flatten.length < 17592186044416) : Ev (fun k => slices_Concat_int_int.f k ls) ls.flatten := by
  refine concat_l0 ls hl _ ?_ ls.length 0 0 (by omega) (by omega) (by rw [List.drop_zero]; omega)
  have h := concat_l1 ls hl ls.length 0 [] (by omega) (by rw [List.drop_zero, List.length_nil]; omega)
  rw [List.drop_zero, List.nil_append] at h
  exact h

theorem together_tells (a b : List Int) (ha : a.length ≤ 1000000000) (hb : b.length ≤ 1000000000) : Ev (fun k => impl_together.f k a b) (setOf (a ++ b)) := by
  unfold impl_together.f
  have h := concat_tells [a, b] (by simp) (by simp; omega)
  simp only [List.flatten_cons, List.flatten_nil, List.append_nil] at h
  refine ev_bind h (ev_some fun _ => ?_)
  unfold slices_Sort_int_int.f slices_Compact_int_int.f
  rw [if_pos (by simp; omega)]
  rfl

theorem drop_r (l : List (List Int)) (i : Nat) (h : i < l.length) : l.drop i = l.getD i [] :: l.drop (i + 1) := by
  rw [List.drop_eq_getElem_cons h]
  simp [List.getD, List.getElem?_eq_getElem h]
theorem rdR (l : List (List Int)) (i : Nat) : rd_L3 l (i : Int) = l.getD i [] := by simp [rd_L3]
/-- The weight of a row of rows: each row and each number counts one. -/
def weigh (l : List (List Int)) : Nat := l.length + (l.map List.length).sum
theorem row_le {l : List (List Int)} {x : List Int} (h : x ∈ l) : x.length ≤ (l.map List.length).sum := by
  induction l with
  | nil => simp at h
  | cons a l ih =>
    rw [List.map_cons, List.sum_cons]
    rcases List.mem_cons.1 h with e | e
    · subst e
      omega
    · have := ih e
      omega
theorem getR_mem (l : List (List Int)) (i : Nat) (h : i < l.length) : l.getD i [] ∈ l := by
  have := List.getElem_mem h
  simpa [List.getD, List.getElem?_eq_getElem h] using this

def needAt (l : List S98) (i : Nat) (x : List (List Int)) : List (List Int) := if (rd_T98 l i).f0 = 1 then x else if (rd_T98 l (rd_T98 l i).f3).f1 = (rd_T98 l i).f1 then x else x.set (rd_T98 l i).f1.toNat (ins (rd_T98 l (rd_T98 l i).f3).f1 (rd_L3 x (rd_T98 l i).f1))
def needsGo (l : List S98) : Nat → Nat → List (List Int) → List (List Int)
  | 0, _, x => x
  | d + 1, i, x => needsGo l d (i + 1) (needAt l i x)
theorem row_up (x : List (List Int)) (j : Int) (h : ∀ r ∈ x, Up r) : Up (rd_L3 x j) := by
  unfold rd_L3
  rw [List.getD]
  cases hq : x[j.toNat]? with
  | none => exact List.Pairwise.nil
  | some v => exact h v (List.mem_of_getElem? hq)
theorem needAt_inv (l : List S98) (i : Nat) (x : List (List Int)) (hu : ∀ r ∈ x, Up r) (h : ∀ r ∈ x, r.length ≤ i) : (needAt l i x).length = x.length ∧ (∀ r ∈ needAt l i x, Up r) ∧ ∀ r ∈ needAt l i x, r.length ≤ i + 1 := by
  unfold needAt
  split
  · exact ⟨rfl, hu, fun r hr => by have := h r hr; omega⟩
  · split
    · exact ⟨rfl, hu, fun r hr => by have := h r hr; omega⟩
    · refine ⟨by simp, fun r hr => ?_, fun r hr => ?_⟩
      · rcases List.mem_or_eq_of_mem_set hr with e | e
        · exact hu r e
        · rw [e]
          exact up_ins _ (row_up x _ hu)
      · rcases List.mem_or_eq_of_mem_set hr with e | e
        · have := h r e
          omega
        · rw [e]
          have h1 := ins_len (rd_T98 l (rd_T98 l i).f3).f1 (rd_L3 x (rd_T98 l i).f1)
          have h2 := row_len x (rd_T98 l i).f1 i h
          omega
theorem needsGo_inv (l : List S98) : ∀ (d i : Nat) (x : List (List Int)), (∀ r ∈ x, Up r) → (∀ r ∈ x, r.length ≤ i) → (needsGo l d i x).length = x.length ∧ ∀ r ∈ needsGo l d i x, r.length ≤ i + d
  | 0, i, x, _, h => ⟨rfl, h⟩
  | d + 1, i, x, hu, h => by
    obtain ⟨a, u, b⟩ := needAt_inv l i x hu h
    obtain ⟨a2, b2⟩ := needsGo_inv l d (i + 1) (needAt l i x) u b
    refine ⟨a2.trans a, fun r hr => ?_⟩
    have := b2 r hr
    omega
theorem from_ok {s : S98} {i : Nat} (h : stepOk s i = true) (hi : i ≤ 10) (h1 : ¬ s.f0 = 1) : 0 ≤ s.f3 ∧ s.f3 < i := by
  unfold stepOk at h
  rw [if_neg h1, w64 (i := (i : Int) - 1) (by omega) (by omega)] at h
  by_cases h2 : s.f0 = 2
  · rw [if_pos h2] at h
    unfold inB at h
    simp only [Bool.and_eq_true, decide_eq_true_eq] at h
    omega
  · rw [if_neg h2] at h
    by_cases h3 : s.f0 = 3
    · rw [if_pos h3] at h
      unfold inB at h
      simp only [Bool.and_eq_true, decide_eq_true_eq] at h
      omega
    · rw [if_neg h3] at h
      simp at h
theorem needs_both (l : List S98) (hl : l.length ≤ 10) (ok : ∀ i, i < l.length → stepOk (rd_T98 l i) i = true) : ∀ (d i : Nat) (x : List (List Int)), i + d = l.length → x.length = 3 → (∀ r ∈ x, Up r) → (∀ r ∈ x, r.length ≤ i) → Ev (fun k => spec_l15Needs.l0 k l x l (l.length : Int) (i : Int)) (needsGo l d i x) ∧ Ev (fun k => impl_needs.l0 k l x l (l.length : Int) (i : Int)) (needsGo l d i x)
  | 0, i, x, h, _, _, _ => ⟨ev_stop fun k => by
    rw [spec_l15Needs.l0, if_neg (by omega)]
    rfl, ev_stop fun k => by
    rw [impl_needs.l0, if_neg (by omega)]
    rfl⟩
  | d + 1, i, x, h, h3, hu, hr => by
    obtain ⟨a, b⟩ := shard_ok (ok i (by omega))
    obtain ⟨c1, cu, c2⟩ := needAt_inv l i x hu hr
    obtain ⟨s1, s2⟩ := needs_both l hl ok d (i + 1) (needAt l i x) (by omega) (c1.trans h3) cu c2
    have hlen := row_len x (rd_T98 l i).f1 i hr
    have hup := row_up x (rd_T98 l i).f1 hu
    show Ev _ (needsGo l d (i + 1) (needAt l i x)) ∧ Ev _ (needsGo l d (i + 1) (needAt l i x))
    generalize hq : needsGo l d (i + 1) (needAt l i x) = q at s1 s2 ⊢
    by_cases h1 : (rd_T98 l i).f0 = 1
    · have e : needAt l i x = x := by unfold needAt; rw [if_pos h1]
      rw [e] at s1 s2
      exact ⟨ev_step s1 fun k => by rw [spec_l15Needs.l0, if_pos (by omega), if_pos (by omega), if_pos (by omega), if_pos h1, next i (by omega)], ev_step s2 fun k => by rw [impl_needs.l0, if_pos (by omega), if_pos (by omega), if_pos (by omega), if_pos h1, next i (by omega)]⟩
    · obtain ⟨f0, f1⟩ := from_ok (ok i (by omega)) (by omega) h1
      by_cases h2 : (rd_T98 l (rd_T98 l i).f3).f1 = (rd_T98 l i).f1
      · have e : needAt l i x = x := by unfold needAt; rw [if_neg h1, if_pos h2]
        rw [e] at s1 s2
        exact ⟨ev_step s1 fun k => by rw [spec_l15Needs.l0, if_pos (by omega), if_pos (by omega), if_pos (by omega), if_neg h1, if_pos f0, if_pos (by omega), if_pos h2, next i (by omega)], ev_step s2 fun k => by rw [impl_needs.l0, if_pos (by omega), if_pos (by omega), if_pos (by omega), if_neg h1, if_pos f0, if_pos (by omega), if_pos h2, next i (by omega)]⟩
      · have e : needAt l i x = x.set (rd_T98 l i).f1.toNat (ins (rd_T98 l (rd_T98 l i).f3).f1 (rd_L3 x (rd_T98 l i).f1)) := by unfold needAt; rw [if_neg h1, if_neg h2]
        rw [e] at s1 s2
        refine ⟨Ev.step (f := fun k => (spec_l1Put.f k (rd_L3 x (rd_T98 l i).f1) (rd_T98 l (rd_T98 l i).f3).f1).bind fun t => spec_l15Needs.l0 k l (x.set (rd_T98 l i).f1.toNat t) l (l.length : Int) ((i + 1 : Nat) : Int)) (fun k => ?_) (ev_bind (put_tells _ _ (by omega)) s1), Ev.step (f := fun k => (impl_together.f k (rd_L3 x (rd_T98 l i).f1) [(rd_T98 l (rd_T98 l i).f3).f1]).bind fun t => impl_needs.l0 k l (x.set (rd_T98 l i).f1.toNat t) l (l.length : Int) ((i + 1 : Nat) : Int)) (fun k => ?_) ?_⟩
        · rw [spec_l15Needs.l0, if_pos (by omega), if_pos (by omega), if_pos (by omega), if_neg h1, if_pos f0, if_pos (by omega), if_neg h2, if_pos a, if_pos (by omega), next i (by omega)]
        · rw [impl_needs.l0, if_pos (by omega), if_pos (by omega), if_pos (by omega), if_neg h1, if_pos f0, if_pos (by omega), if_neg h2, if_pos a, if_pos (by omega), next i (by omega)]
        · refine ev_bind (together_tells _ _ (by omega) (by simp)) ?_
          rw [setOf_ins hup]
          exact s2
def needsOf (l : List S98) : List (List Int) := needsGo l l.length 0 (List.replicate 3 [])
theorem needsOf_tells (l : List S98) (hl : l.length ≤ 10) (ok : ∀ i, i < l.length → stepOk (rd_T98 l i) i = true) : Ev (fun k => spec_l15Needs.f k l) (needsOf l) ∧ Ev (fun k => impl_needs.f k l) (needsOf l) ∧ weigh (needsOf l) ≤ 1048576 := by
  have hz : ∀ r ∈ List.replicate 3 ([] : List Int), r = [] := fun r hr => (List.mem_replicate.1 hr).2
  have hu : ∀ r ∈ List.replicate 3 ([] : List Int), Up r := fun r hr => by rw [hz r hr]; exact List.Pairwise.nil
  have h0 : ∀ r ∈ List.replicate 3 ([] : List Int), r.length ≤ 0 := fun r hr => by rw [hz r hr]; simp
  obtain ⟨s1, s2⟩ := needs_both l hl ok l.length 0 (List.replicate 3 []) (by omega) (by simp) hu h0
  obtain ⟨n1, n2⟩ := needsGo_inv l l.length 0 (List.replicate 3 []) hu h0
  refine ⟨?_, ?_, ?_⟩
  · unfold spec_l15Needs.f
    exact ev_ite_pos (by omega) s1
  · unfold impl_needs.f
    exact ev_ite_pos (by omega) s2
  · have h := rows_sum _ (0 + l.length) n2
    unfold needsOf weigh
    rw [n1, List.length_replicate] at h ⊢
    omega

theorem rise_same : ∀ (k : Nat) (x0 : List Int) (x1 x2 : Int) (x9 : List Int) (x10 x11 : Int), spec_l1Rising.l0 k x0 x1 x2 x9 x10 x11 = impl_isRising.l0 k x0 x1 x2 x9 x10 x11
  | 0, _, _, _, _, _, _ => rfl
  | k + 1, x0, x1, x2, x9, x10, x11 => by
    rw [spec_l1Rising.l0, impl_isRising.l0]
    simp only [rise_same k]
    rfl
theorem srise_tells (l : List Int) (a b : Int) (hl : l.length ≤ 4611686018427387904) : Ev (fun k => spec_l1Rising.f k l a b) (riseB l a b) :=
  Ev.congr (fun k => rise_same k _ _ _ _ _ _) (rise_tells l a b hl)

def rowAt (l : List (List Int)) (k : Int) : List Int := l.getD k.toNat []
def linksB (l : List (List Int)) : Bool := decide (l.length ≤ 12) && l.all fun row => riseB row 0 ((l.length : Int) - 1)
/-- Each row names places of the whole, in rising order. -/
structure Links (l : List (List Int)) : Prop where
  len : l.length ≤ 12
  up : ∀ k : Int, 0 ≤ k → k < l.length → Up (rowAt l k)
  mem : ∀ k : Int, 0 ≤ k → k < l.length → ∀ x ∈ rowAt l k, 0 ≤ x ∧ x < l.length
theorem up_of_next : ∀ {l : List Int}, (∀ i, i + 1 < l.length → l.getD i 0 < l.getD (i + 1) 0) → Up l
  | [], _ => List.Pairwise.nil
  | [a], _ => by simp
  | a :: b :: l, h => by
    have h1 : Up (b :: l) := up_of_next fun i hi => by
      have := h (i + 1) (by simpa using hi)
      simpa using this
    have h2 := List.pairwise_cons.1 h1
    have hab : a < b := by simpa using h 0 (by simp)
    refine List.pairwise_cons.2 ⟨fun y hy => ?_, h1⟩
    rcases List.mem_cons.1 hy with e | e
    · omega
    · have := h2.1 y e
      omega
theorem rise_facts {l : List Int} {a b : Int} (h : riseB l a b = true) : Up l ∧ ∀ x ∈ l, a ≤ x ∧ x ≤ b := by
  unfold riseB okAt at h
  simp only [List.all_eq_true, List.mem_range, Bool.and_eq_true, Bool.or_eq_true, decide_eq_true_eq] at h
  refine ⟨up_of_next fun i hi => ?_, fun x hx => ?_⟩
  · have := (h (i + 1) hi).2
    rcases this with e | e
    · omega
    · simpa using e
  · obtain ⟨i, hi, rfl⟩ := List.mem_iff_getElem.1 hx
    have := (h i hi).1
    simpa [List.getD, List.getElem?_eq_getElem hi] using this
theorem links_of {l : List (List Int)} (h : linksB l = true) : Links l := by
  unfold linksB at h
  simp only [Bool.and_eq_true, decide_eq_true_eq, List.all_eq_true] at h
  have hm : ∀ k : Int, 0 ≤ k → k < l.length → rowAt l k ∈ l := fun k h0 h1 => by
    have h2 : k.toNat < l.length := by omega
    have := List.getElem_mem h2
    simpa [rowAt, List.getD, List.getElem?_eq_getElem h2] using this
  refine ⟨h.1, fun k h0 h1 => (rise_facts (h.2 _ (hm k h0 h1))).1, fun k h0 h1 x hx => ?_⟩
  have := (rise_facts (h.2 _ (hm k h0 h1))).2 x hx
  omega
theorem up_len : ∀ {l : List Int} {a b : Int}, Up l → (∀ x ∈ l, a ≤ x ∧ x < b) → a ≤ b → (l.length : Int) ≤ b - a
  | [], a, b, _, _, h => by simpa using h
  | c :: l, a, b, hu, hm, h => by
    have h1 := List.pairwise_cons.1 hu
    have hc := hm c (by simp)
    have := up_len (a := c + 1) (b := b) h1.2 (fun x hx => ⟨by have := h1.1 x hx; omega, (hm x (List.mem_cons_of_mem _ hx)).2⟩) (by omega)
    rw [List.length_cons]
    omega
theorem Links.rowlen {l : List (List Int)} (h : Links l) (k : Int) (h0 : 0 ≤ k) (h1 : k < l.length) : (rowAt l k).length ≤ 12 := by
  have := up_len (h.up k h0 h1) (h.mem k h0 h1) (by omega)
  have := h.len
  omega
theorem linksrow (l : List (List Int)) (i : Nat) : rd_L3 l (i : Int) = l.getD i [] := by simp [rd_L3]
theorem slinks_tells (l : List (List Int)) (hl : l.length ≤ 1048576) (hr : ∀ x ∈ l, x.length ≤ 1048576) : Ev (fun k => spec_GoodLinks.f k l) (linksB l) := by
  have e : linksB l = ((List.range l.length).all (fun i => riseB (l.getD i []) 0 ((l.length : Int) - 1)) && decide (l.length ≤ 12)) := by
    unfold linksB
    rw [Bool.and_comm]
    congr 1
    rw [Bool.eq_iff_iff]
    simp only [List.all_eq_true, List.mem_range]
    constructor
    · intro h i hi
      exact h _ (by have := List.getElem_mem hi; simpa [List.getD, List.getElem?_eq_getElem hi] using this)
    · intro h x hx
      obtain ⟨i, hi, rfl⟩ := List.mem_iff_getElem.1 hx
      have := h i hi
      simpa [List.getD, List.getElem?_eq_getElem hi] using this
  have round : ∀ (i : Nat), i < l.length → ∀ q, Ev (fun k => if riseB (l.getD i []) 0 ((l.length : Int) - 1) = true then spec_GoodLinks.l0 k l l (l.length : Int) ((i + 1 : Nat) : Int) else some false) q → Ev (fun k => spec_GoodLinks.l0 k l l (l.length : Int) (i : Int)) q := by
    intro i hi q hq
    have hm : l.getD i [] ∈ l := by have := List.getElem_mem hi; simpa [List.getD, List.getElem?_eq_getElem hi] using this
    have hm2 := hr _ hm
    refine Ev.step (f := fun k => (spec_l1Rising.f k (l.getD i []) 0 ((l.length : Int) - 1)).bind fun t => if t = true then spec_GoodLinks.l0 k l l (l.length : Int) ((i + 1 : Nat) : Int) else some false) (fun k => ?_) (ev_bind (srise_tells _ _ _ (by omega)) hq)
    rw [spec_GoodLinks.l0, if_pos (by omega), if_pos (by omega), if_pos (by omega), linksrow, next i (by omega), w64 (by omega) (by omega)]
  rw [e]
  refine all_from (F := fun k i => spec_GoodLinks.l0 k l l (l.length : Int) (i : Int)) (ev_stop fun k => ?_) (fun i hi hp q hq => round i hi q (ev_ite_pos hp hq)) (fun i hi hp => round i hi _ (ev_ite_neg (by rw [hp]; decide) (ev_some fun _ => rfl)))
  rw [spec_GoodLinks.l0, if_neg (by omega)]
  congr 1
  exact decide_eq_decide.2 (by omega)
theorem links_tells (l : List (List Int)) (hr : ∀ x ∈ l, x.length ≤ 1048576) : impl_GoodLinks.f l = some (linksB l) := by
  unfold impl_GoodLinks.f
  rw [if_pos fun x hx => by have := hr x hx; omega]
  rfl

theorem has_l (l : List Int) (x : Int) (hl : l.length ≤ 4611686018427387903) : ∀ (d i : Nat), i + d = l.length → Ev (fun k => spec_l1Has.l0 k x l (l.length : Int) (i : Int)) (decide (x ∈ l.drop i))
  | 0, i, h => ev_stop fun k => by
    rw [spec_l1Has.l0, if_neg (by omega), List.drop_of_length_le (by omega)]
    simp
  | d + 1, i, h => by
    have ih := has_l l x hl d (i + 1) (by omega)
    rw [drop_at l i (by omega)]
    by_cases hx : l.getD i 0 = x
    · exact ev_stop fun k => by
        rw [spec_l1Has.l0, if_pos (by omega), if_pos (by omega), if_pos (by omega), rdn, if_pos hx, hx]
        simp
    · refine ev_step (r := decide (x ∈ l.getD i 0 :: l.drop (i + 1))) (by
        have e : decide (x ∈ l.getD i 0 :: l.drop (i + 1)) = decide (x ∈ l.drop (i + 1)) := decide_eq_decide.2 (by
          rw [List.mem_cons]
          exact ⟨fun h => h.resolve_left (fun h => hx h.symm), .inr⟩)
        rw [e]
        exact ih) fun k => by
        rw [spec_l1Has.l0, if_pos (by omega), if_pos (by omega), if_pos (by omega), rdn, if_neg hx, next i (by omega)]
theorem has_tells (l : List Int) (x : Int) (hl : l.length ≤ 4611686018427387903) : Ev (fun k => spec_l1Has.f k l x) (decide (x ∈ l)) := by
  have h := has_l l x hl l.length 0 (by omega)
  rw [List.drop_zero] at h
  exact h

theorem index_l (l : List Int) (x : Int) (hl : l.length ≤ 4611686018427387903) : ∀ (d i : Nat), i + d = l.length → ∃ r : Int, Ev (fun k => slices_Index_int_int.l0 k l x (l.length : Int) (i : Int)) r ∧ (r ≥ 0 ↔ x ∈ l.drop i)
  | 0, i, h => ⟨-1, ev_stop fun k => by
    rw [slices_Index_int_int.l0, if_neg (by omega)], by
    rw [List.drop_of_length_le (by omega)]
    simp⟩
  | d + 1, i, h => by
    obtain ⟨r, hr, hm⟩ := index_l l x hl d (i + 1) (by omega)
    rw [drop_at l i (by omega)]
    by_cases hx : x = l.getD i 0
    · refine ⟨i, ev_stop fun k => ?_, ?_⟩
      · rw [slices_Index_int_int.l0, if_pos (by omega), if_pos (by omega), if_pos (by omega), rdn, if_pos hx]
      · rw [hx]
        simp
    · refine ⟨r, ev_step hr fun k => ?_, hm.trans ?_⟩
      · rw [slices_Index_int_int.l0, if_pos (by omega), if_pos (by omega), if_pos (by omega), rdn, if_neg hx, next i (by omega)]
      · rw [List.mem_cons]
        exact ⟨.inr, fun h => h.resolve_left hx⟩
theorem contains_tells (l : List Int) (x : Int) (hl : l.length ≤ 4611686018427387903) : Ev (fun k => slices_Contains_int_int.f k l x) (decide (x ∈ l)) := by
  obtain ⟨r, hr, hm⟩ := index_l l x hl l.length 0 (by omega)
  rw [List.drop_zero] at hm
  unfold slices_Contains_int_int.f
  refine ev_bind (a := r) hr (ev_some fun _ => ?_)
  rw [decide_eq_decide.2 hm]

inductive Path (l : List (List Int)) (a : Int) : Int → Prop
  | refl : Path l a a
  | step {b c : Int} : Path l a b → c ∈ rowAt l b → Path l a c
theorem Path.trans {l : List (List Int)} {a b c : Int} (h : Path l a b) (k : Path l b c) : Path l a c := by
  induction k with
  | refl => exact h
  | step _ hc ih => exact ih.step hc
def addAll : List Int → List Int → List Int
  | L, [] => L
  | L, x :: xs => if x ∈ L then addAll L xs else addAll (L ++ [x]) xs
/-- What is kept while the search goes on: no place twice, all of them places. -/
structure Seen (n : Nat) (L : List Int) : Prop where
  nodup : L.Nodup
  mem : ∀ x ∈ L, 0 ≤ x ∧ x < n
theorem nodup_len : ∀ (n : Nat) {L : List Int}, L.Nodup → (∀ x ∈ L, 0 ≤ x ∧ x < n) → L.length ≤ n
  | 0, [], _, _ => by simp
  | 0, a :: L, _, h => by
    have := h a (by simp)
    omega
  | n + 1, L, hn, h => by
    have h1 : (L.erase (n : Int)).length ≤ n := nodup_len n (hn.erase _) fun x hx => by
      have h2 := (hn.mem_erase_iff).1 hx
      have h3 := h x h2.2
      have h4 := h2.1
      omega
    by_cases hm : (n : Int) ∈ L
    · rw [List.length_erase_of_mem hm] at h1
      omega
    · rw [List.erase_of_not_mem hm] at h1
      omega
theorem Seen.len {n : Nat} {L : List Int} (h : Seen n L) : L.length ≤ n := nodup_len n h.nodup h.mem
theorem Seen.add {n : Nat} {L : List Int} (h : Seen n L) {x : Int} (hx : x ∉ L) (h0 : 0 ≤ x ∧ x < n) : Seen n (L ++ [x]) := by
  refine ⟨List.nodup_append.2 ⟨h.nodup, by simp, fun a ha b hb => ?_⟩, fun y hy => ?_⟩
  · obtain rfl := List.mem_singleton.1 hb
    exact fun e => hx (e ▸ ha)
  · rcases List.mem_append.1 hy with e | e
    · exact h.mem y e
    · obtain rfl := List.mem_singleton.1 e
      exact h0
theorem addAll_facts {n : Nat} : ∀ (xs L : List Int), Seen n L → (∀ x ∈ xs, 0 ≤ x ∧ x < n) → Seen n (addAll L xs) ∧ L <+: addAll L xs ∧ ∀ y, y ∈ addAll L xs ↔ y ∈ L ∨ y ∈ xs
  | [], L, h, _ => by simp [addAll, h]
  | x :: xs, L, h, hx => by
    unfold addAll
    by_cases hm : x ∈ L
    · rw [if_pos hm]
      obtain ⟨a, b, c⟩ := addAll_facts xs L h fun y hy => hx y (List.mem_cons_of_mem _ hy)
      refine ⟨a, b, fun y => (c y).trans ?_⟩
      rw [List.mem_cons]
      exact ⟨fun h => h.elim .inl (fun h => .inr (.inr h)), fun h => h.elim .inl (fun h => h.elim (fun e => .inl (e ▸ hm)) .inr)⟩
    · rw [if_neg hm]
      obtain ⟨a, b, c⟩ := addAll_facts xs (L ++ [x]) (h.add hm (hx x (by simp))) fun y hy => hx y (List.mem_cons_of_mem _ hy)
      refine ⟨a, (List.prefix_append _ _).trans b, fun y => (c y).trans ?_⟩
      rw [List.mem_append, List.mem_singleton, List.mem_cons, or_assoc]
theorem getR (l : List (List Int)) (k : Int) : rd_L3 l k = rowAt l k := rfl
theorem inner_i {l : List (List Int)} (hl : l.length ≤ 12) (row : List Int) (hrow : row.length ≤ 1048576) (hx : ∀ x ∈ row, 0 ≤ x ∧ x < (l.length : Int)) (i : Int) (r : List Int) :
    ∀ (d j : Nat) (L : List Int), j + d = row.length → Seen l.length L → Ev (fun k => impl_reach.l0 k l (addAll L (row.drop j)) (wrap64 (i + 1))) r → Ev (fun k => impl_reach.l1 k l L i row (row.length : Int) (j : Int)) r
  | 0, j, L, h, hs, hr => by
    rw [List.drop_of_length_le (by omega)] at hr
    exact ev_step hr fun k => by rw [impl_reach.l1, if_neg (by omega)]; rfl
  | d + 1, j, L, h, hs, hr => by
    have hlen := hs.len
    rw [drop_at row j (by omega), addAll] at hr
    have hxm : row.getD j 0 ∈ row := by
      have := List.getElem_mem (show j < row.length by omega)
      simpa [List.getD, List.getElem?_eq_getElem (show j < row.length by omega)] using this
    refine Ev.step (f := fun k => (slices_Contains_int_int.f k L (row.getD j 0)).bind fun t => if t = true then impl_reach.l1 k l L i row (row.length : Int) ((j + 1 : Nat) : Int) else impl_reach.l1 k l (L ++ [row.getD j 0]) i row (row.length : Int) ((j + 1 : Nat) : Int)) (fun k => ?_) (ev_bind (contains_tells L _ (by omega)) ?_)
    · rw [impl_reach.l1, if_pos (by omega), if_pos (by omega), if_pos (by omega), rdn, next j (by omega)]
      refine congrArg (Option.bind _) (funext fun t => ?_)
      rw [if_pos (show L.length < 17592186044416 by omega)]
    · by_cases hm : row.getD j 0 ∈ L
      · rw [if_pos hm] at hr
        exact ev_ite_pos (by simpa using hm) (inner_i hl row hrow hx i r d (j + 1) L (by omega) hs hr)
      · rw [if_neg hm] at hr
        exact ev_ite_neg (by simpa using hm) (inner_i hl row hrow hx i r d (j + 1) (L ++ [row.getD j 0]) (by omega) (hs.add hm (hx _ hxm)) hr)
theorem inner_s {l : List (List Int)} (hl : l.length ≤ 12) (row : List Int) (hrow : row.length ≤ 1048576) (hx : ∀ x ∈ row, 0 ≤ x ∧ x < (l.length : Int)) (i : Nat) (r : List Int) :
    ∀ (d j : Nat) (L : List Int), j + d = row.length → i ≤ L.length → Seen l.length L → Ev (fun k => spec_l9Reach.l0 k l (setOf (addAll L (row.drop j))) ((addAll L (row.drop j)).drop i)) r → Ev (fun k => spec_l9Reach.l1 k l (setOf L) (L.drop i) row (row.length : Int) (j : Int)) r
  | 0, j, L, h, hi, hs, hr => by
    rw [List.drop_of_length_le (by omega)] at hr
    exact ev_step hr fun k => by rw [spec_l9Reach.l1, if_neg (by omega)]; rfl
  | d + 1, j, L, h, hi, hs, hr => by
    have hlen := hs.len
    have hslen := setOf_len L
    rw [drop_at row j (by omega), addAll] at hr
    have hxm : row.getD j 0 ∈ row := by
      have := List.getElem_mem (show j < row.length by omega)
      simpa [List.getD, List.getElem?_eq_getElem (show j < row.length by omega)] using this
    refine Ev.step (f := fun k => (spec_l1Has.f k (setOf L) (row.getD j 0)).bind fun t => if t = true then spec_l9Reach.l1 k l (setOf L) (L.drop i) row (row.length : Int) ((j + 1 : Nat) : Int) else (spec_l1Put.f k (setOf L) (row.getD j 0)).bind fun t => spec_l9Reach.l1 k l t (L.drop i ++ [row.getD j 0]) row (row.length : Int) ((j + 1 : Nat) : Int)) (fun k => ?_) (ev_bind (has_tells (setOf L) _ (by omega)) ?_)
    · rw [spec_l9Reach.l1, if_pos (by omega), if_pos (by omega), if_pos (by omega), rdn, next j (by omega)]
      refine congrArg (Option.bind _) (funext fun t => ?_)
      have hlt : (L.drop i).length < 17592186044416 := by rw [List.length_drop]; omega
      simp only [hlt, if_true]
    · by_cases hm : row.getD j 0 ∈ L
      · rw [if_pos hm] at hr
        exact ev_ite_pos (by simpa using ((setOf_up_mem L).2 _).2 hm) (inner_s hl row hrow hx i r d (j + 1) L (by omega) hi hs hr)
      · rw [if_neg hm] at hr
        have ih := inner_s hl row hrow hx i r d (j + 1) (L ++ [row.getD j 0]) (by omega) (by rw [List.length_append]; omega) (hs.add hm (hx _ hxm)) hr
        rw [set_add, List.drop_append_of_le_length hi] at ih
        exact ev_ite_neg (by simpa using fun h => hm (((setOf_up_mem L).2 _).1 h)) (ev_bind (put_tells (setOf L) _ (by omega)) ih)
theorem prefix_get {L M : List Int} (h : L <+: M) {j : Nat} (hj : j < L.length) : M.getD j 0 = L.getD j 0 := by
  have e := h.getElem hj
  have := h.length_le
  rw [List.getD, List.getD, List.getElem?_eq_getElem hj, List.getElem?_eq_getElem (by omega), ← e]
theorem stop_reach {l : List (List Int)} (H : Links l) (a : Int) (i : Nat) (L : List Int) (hi : i = L.length) (hs : Seen l.length L) (ha : a ∈ L) (hp : ∀ y ∈ L, Path l a y) (hc : ∀ j, j < i → ∀ y ∈ rowAt l (L.getD j 0), y ∈ L) :
    ∃ r, Up r ∧ (∀ y, y ∈ r ↔ Path l a y) ∧ (∀ y ∈ r, 0 ≤ y ∧ y < (l.length : Int)) ∧ Ev (fun k => spec_l9Reach.l0 k l (setOf L) (L.drop i)) r ∧ Ev (fun k => impl_reach.l0 k l L (i : Int)) r := by
  have hlen := hs.len
  have hl := H.len
  obtain ⟨u, m⟩ := setOf_up_mem L
  refine ⟨setOf L, u, fun y => (m y).trans ⟨hp y, fun h => ?_⟩, fun y hy => hs.mem y ((m y).1 hy), ?_, ?_⟩
  · induction h with
    | refl => exact ha
    | step _ hcc ih =>
      obtain ⟨j, hj, rfl⟩ := List.mem_iff_getElem.1 ih
      exact hc j (by omega) _ (by simpa [List.getD, List.getElem?_eq_getElem hj] using hcc)
  · rw [List.drop_of_length_le (by omega)]
    exact ev_stop fun k => by rw [spec_l9Reach.l0, if_neg (by simp)]
  · exact ev_stop fun k => by
      rw [impl_reach.l0, if_neg (by omega)]
      unfold slices_Sort_int_int.f
      rw [if_pos (by omega), Option.bind_some, sort_nodup hs.nodup]
theorem outer {l : List (List Int)} (H : Links l) (a : Int) : ∀ (d i : Nat) (L : List Int), i + d = l.length → i ≤ L.length → Seen l.length L → a ∈ L → (∀ y ∈ L, Path l a y) → (∀ j, j < i → ∀ y ∈ rowAt l (L.getD j 0), y ∈ L) →
    ∃ r, Up r ∧ (∀ y, y ∈ r ↔ Path l a y) ∧ (∀ y ∈ r, 0 ≤ y ∧ y < (l.length : Int)) ∧ Ev (fun k => spec_l9Reach.l0 k l (setOf L) (L.drop i)) r ∧ Ev (fun k => impl_reach.l0 k l L (i : Int)) r
  | 0, i, L, h, hi, hs, ha, hp, hc => stop_reach H a i L (by have := hs.len; omega) hs ha hp hc
  | d + 1, i, L, h, hi, hs, ha, hp, hc => by
    have hlen := hs.len
    have hl := H.len
    by_cases he : i = L.length
    · exact stop_reach H a i L he hs ha hp hc
    have hiL : i < L.length := by omega
    have hkm : L.getD i 0 ∈ L := by
      have := List.getElem_mem hiL
      simpa [List.getD, List.getElem?_eq_getElem hiL] using this
    obtain ⟨k0, k1⟩ := hs.mem _ hkm
    have hrm := H.mem _ k0 k1
    have hrl := H.rowlen _ k0 k1
    obtain ⟨f1, f2, f3⟩ := addAll_facts (rowAt l (L.getD i 0)) L hs hrm
    have hlen2 := f2.length_le
    have hget := fun j (hj : j < L.length) => prefix_get f2 hj
    obtain ⟨r, r1, r2, r3, r4, r5⟩ := outer H a d (i + 1) (addAll L (rowAt l (L.getD i 0))) (by omega) (by omega) f1 ((f3 a).2 (.inl ha))
      (fun y hy => by
        rcases (f3 y).1 hy with e | e
        · exact hp y e
        · exact (hp _ hkm).step e)
      (fun j hj y hy => by
        rw [hget j (by omega)] at hy
        by_cases hji : j = i
        · subst hji
          exact (f3 y).2 (.inr hy)
        · exact (f3 y).2 (.inl (hc j (by omega) y hy)))
    refine ⟨r, r1, r2, r3, ?_, ?_⟩
    · have hd : L.drop i = L.getD i 0 :: L.drop (i + 1) := drop_at L i hiL
      refine Ev.step (fun k => ?_) (inner_s hl (rowAt l (L.getD i 0)) (by omega) hrm (i + 1) r _ 0 L (Nat.zero_add _) (by omega) hs (by rw [List.drop_zero]; exact r4))
      rw [spec_l9Reach.l0, hd, if_pos (by rw [List.length_cons]; omega), if_pos (by rw [List.length_cons]; omega), if_pos (by rw [List.length_cons]; omega), show rd (L.getD i 0 :: L.drop (i + 1)) 0 = L.getD i 0 from rfl, if_pos k0, if_pos k1]
      rfl
    · refine Ev.step (fun k => ?_) (inner_i hl (rowAt l (L.getD i 0)) (by omega) hrm (i : Int) r _ 0 L (Nat.zero_add _) hs (by rw [List.drop_zero, next i (by omega)]; exact r5))
      rw [impl_reach.l0, if_pos (by omega), if_pos (by omega), rdn, if_pos k0, if_pos k1]
      rfl
theorem setOf_one (a : Int) : setOf [a] = [a] := by
  obtain ⟨u, m⟩ := setOf_up_mem [a]
  exact up_ext u (by simp) m
theorem reach_ex {l : List (List Int)} (H : Links l) (a : Int) (h0 : 0 ≤ a) (h1 : a < l.length) : ∃ r, Up r ∧ (∀ y, y ∈ r ↔ Path l a y) ∧ (∀ y ∈ r, 0 ≤ y ∧ y < (l.length : Int)) ∧ Ev (fun k => spec_l9Reach.f k l a) r ∧ Ev (fun k => impl_reach.f k l a) r := by
  have h := outer H a l.length 0 [a] (by omega) (by simp) ⟨by simp, fun x hx => by obtain rfl := List.mem_singleton.1 hx; exact ⟨h0, h1⟩⟩ (by simp) (fun y hy => by obtain rfl := List.mem_singleton.1 hy; exact .refl) (fun j hj => absurd hj (by omega))
  rw [setOf_one, List.drop_zero] at h
  exact h
/-- The places that can be reached from a, in rising order. -/
noncomputable def reachOf (l : List (List Int)) (a : Int) : List Int := open Classical in if h : ∃ r, Up r ∧ ∀ y, y ∈ r ↔ Path l a y then Classical.choose h else []
theorem reachOf_eq {l : List (List Int)} {a : Int} {r : List Int} (hu : Up r) (hm : ∀ y, y ∈ r ↔ Path l a y) : reachOf l a = r := by
  have h : ∃ r, Up r ∧ ∀ y, y ∈ r ↔ Path l a y := ⟨r, hu, hm⟩
  unfold reachOf
  rw [dif_pos h]
  obtain ⟨u, m⟩ := Classical.choose_spec h
  exact up_ext u hu fun y => (m y).trans (hm y).symm
structure ReachTold (l : List (List Int)) (a : Int) : Prop where
  up : Up (reachOf l a)
  mem : ∀ y, y ∈ reachOf l a ↔ Path l a y
  bd : ∀ y ∈ reachOf l a, 0 ≤ y ∧ y < (l.length : Int)
  s : Ev (fun k => spec_l9Reach.f k l a) (reachOf l a)
  i : Ev (fun k => impl_reach.f k l a) (reachOf l a)
theorem reach_told {l : List (List Int)} (H : Links l) {a : Int} (h0 : 0 ≤ a) (h1 : a < l.length) : ReachTold l a := by
  obtain ⟨r, u, m, b, s, i⟩ := reach_ex H a h0 h1
  have e := reachOf_eq u m
  refine ⟨by rw [e]; exact u, fun y => by rw [e]; exact m y, by rw [e]; exact b, by rw [e]; exact s, by rw [e]; exact i⟩
theorem ReachTold.len {l : List (List Int)} {a : Int} (h : ReachTold l a) : (reachOf l a).length ≤ l.length := by
  have := up_len h.up h.bd (by omega)
  omega

theorem ev_filtO {q : Nat → Int → Option Bool} {p : Int → Bool} : ∀ (xs : List Int), (∀ x ∈ xs, Ev (fun k => q k x) (p x)) → Ev (fun k => filtO (q k) xs) (xs.filter p) := by
  intro xs h
  have hK : ∃ K, ∀ k, K ≤ k → ∀ x ∈ xs, q k x = some (p x) := by
    induction xs with
    | nil => exact ⟨0, fun _ _ x hx => by simp at hx⟩
    | cons a xs ih =>
      obtain ⟨K1, h1⟩ := ih fun x hx => h x (List.mem_cons_of_mem _ hx)
      obtain ⟨K2, h2⟩ := h a (by simp)
      refine ⟨max K1 K2, fun k hk x hx => ?_⟩
      rcases List.mem_cons.1 hx with e | e
      · subst e
        exact h2 k (by omega)
      · exact h1 k (by omega) x e
  obtain ⟨K, hK⟩ := hK
  refine ⟨K, fun k hk => ?_⟩
  show filtO (q k) xs = _
  unfold filtO
  rw [if_pos]
  · congr 1
    exact List.filter_congr fun x hx => by rw [hK k hk x hx]; rfl
  · simp only [List.all_eq_true]
    intro x hx
    rw [hK k hk x hx]
    rfl
theorem ev_map {α β : Type} {g : Nat → Option α} {a : α} (f : α → β) (h : Ev g a) : Ev (fun k => (g k).map f) (f a) := by
  obtain ⟨K, hK⟩ := h
  exact ⟨K, fun k hk => by show (g k).map f = _; rw [hK k hk]; rfl⟩

noncomputable def groupOf (l : List (List Int)) (a : Int) : List Int := (reachOf l a).filter fun x => decide (a ∈ reachOf l x)
theorem group_tells {l : List (List Int)} (H : Links l) {a : Int} (h0 : 0 ≤ a) (h1 : a < l.length) : Ev (fun k => impl_group.f k l a) (groupOf l a) := by
  have hr := reach_told H h0 h1
  unfold impl_group.f groupOf
  refine ev_bind hr.i (ev_filtO _ fun x hx => ?_)
  obtain ⟨b0, b1⟩ := hr.bd x hx
  have e : decide (a ∈ reachOf l x) = (reachOf l x).contains a := by simp
  rw [e]
  exact ev_map (fun qs => qs.contains a) (reach_told H b0 b1).i
theorem sgroup_l {l : List (List Int)} (H : Links l) (a : Int) (rs : List Int) (hl : rs.length ≤ 1048576) (hb : ∀ x ∈ rs, 0 ≤ x ∧ x < (l.length : Int)) : ∀ (d i : Nat) (acc : List Int), i + d = rs.length → acc.length + d ≤ 1048576 → Ev (fun k => spec_l9Group.l0 k l a acc rs (rs.length : Int) (i : Int)) (acc ++ (rs.drop i).filter fun x => decide (a ∈ reachOf l x))
  | 0, i, acc, h, _ => ev_stop fun k => by
    rw [spec_l9Group.l0, if_neg (by omega), List.drop_of_length_le (by omega)]
    simp
  | d + 1, i, acc, h, hacc => by
    have hm : rs.getD i 0 ∈ rs := by
      have := List.getElem_mem (show i < rs.length by omega)
      simpa [List.getD, List.getElem?_eq_getElem (show i < rs.length by omega)] using this
    obtain ⟨b0, b1⟩ := hb _ hm
    have hr := reach_told H b0 b1
    have hlen := hr.len
    have hl12 := H.len
    rw [drop_at rs i (by omega)]
    refine Ev.step (f := fun k => (spec_l9Reach.f k l (rs.getD i 0)).bind fun t => (spec_l1Has.f k t a).bind fun u => if u = true then spec_l9Group.l0 k l a (acc ++ [rs.getD i 0]) rs (rs.length : Int) ((i + 1 : Nat) : Int) else spec_l9Group.l0 k l a acc rs (rs.length : Int) ((i + 1 : Nat) : Int)) (fun k => ?_) (ev_bind hr.s (ev_bind (has_tells _ a (by omega)) ?_))
    · have hlt : acc.length < 17592186044416 := by omega
      rw [spec_l9Group.l0, if_pos (by omega), if_pos (by omega), if_pos (by omega), rdn, next i (by omega)]
      simp only [hlt, if_true]
    · by_cases hc : a ∈ reachOf l (rs.getD i 0)
      · have ih := sgroup_l H a rs hl hb d (i + 1) (acc ++ [rs.getD i 0]) (by omega) (by rw [List.length_append, List.length_singleton]; omega)
        rw [List.append_assoc] at ih
        rw [List.filter_cons_of_pos (by simpa using hc)]
        exact ev_ite_pos (by simpa using hc) ih
      · have ih := sgroup_l H a rs hl hb d (i + 1) acc (by omega) (by omega)
        rw [List.filter_cons_of_neg (by simpa using hc)]
        exact ev_ite_neg (by simpa using hc) ih
theorem sgroup_tells {l : List (List Int)} (H : Links l) {a : Int} (h0 : 0 ≤ a) (h1 : a < l.length) : Ev (fun k => spec_l9Group.f k l a) (groupOf l a) := by
  have hr := reach_told H h0 h1
  have hlen := hr.len
  have hl12 := H.len
  unfold spec_l9Group.f groupOf
  refine ev_bind hr.s ?_
  have h := sgroup_l H a (reachOf l a) (by omega) hr.bd (reachOf l a).length 0 [] (by omega) (by simp; omega)
  rw [List.drop_zero, List.nil_append] at h
  exact h
theorem groupOf_mem {l : List (List Int)} (H : Links l) {a : Int} (h0 : 0 ≤ a) (h1 : a < l.length) (x : Int) : x ∈ groupOf l a ↔ Path l a x ∧ Path l x a := by
  have hr := reach_told H h0 h1
  unfold groupOf
  rw [List.mem_filter, hr.mem]
  constructor
  · rintro ⟨p, q⟩
    obtain ⟨b0, b1⟩ := hr.bd x ((hr.mem x).2 p)
    exact ⟨p, ((reach_told H b0 b1).mem a).1 (by simpa using q)⟩
  · rintro ⟨p, q⟩
    obtain ⟨b0, b1⟩ := hr.bd x ((hr.mem x).2 p)
    exact ⟨p, by simpa using ((reach_told H b0 b1).mem a).2 q⟩

theorem scan_ends {α : Type} {F : Nat → Nat → Option α} {p : Nat → Bool} {r f0 : α} {n : Nat} (stop : Ev (fun k => F k n) r) (go : ∀ i, i < n → p i = true → ∀ q, Ev (fun k => F k (i + 1)) q → Ev (fun k => F k i) q) (no : ∀ i, i < n → p i = false → Ev (fun k => F k i) f0) :
    ∀ (d i : Nat), i + d = n → Ev (fun k => F k i) (if (List.range' i d).all p = true then r else f0)
  | 0, i, h => by
    obtain rfl : i = n := by omega
    simpa using stop
  | d + 1, i, h => by
    have ih := scan_ends stop go no d (i + 1) (by omega)
    rw [List.range'_succ, List.all_cons]
    cases hp : p i with
    | true =>
      rw [Bool.true_and]
      exact go i (by omega) hp _ ih
    | false => simpa using no i (by omega) hp
theorem scan_from {α : Type} {F : Nat → Nat → Option α} {p : Nat → Bool} {r f0 : α} {n : Nat} (stop : Ev (fun k => F k n) r) (go : ∀ i, i < n → p i = true → ∀ q, Ev (fun k => F k (i + 1)) q → Ev (fun k => F k i) q) (no : ∀ i, i < n → p i = false → Ev (fun k => F k i) f0) :
    Ev (fun k => F k 0) (if (List.range n).all p = true then r else f0) := by
  rw [List.range_eq_range']
  exact scan_ends stop go no n 0 (by omega)

noncomputable def roundlessAt (l : List (List Int)) (i : Nat) : Bool := !decide ((i : Int) ∈ rowAt l i) && !decide ((groupOf l i).length > 1)
theorem roundless_same (l : List (List Int)) (hw : weigh l ≤ 1048576) : ∃ x : Bool × Bool, Ev (fun k => spec_IsRoundless.f k l) x ∧ Ev (fun k => impl_IsRoundless.f k l) x := by
  have hr : ∀ x ∈ l, x.length ≤ 1048576 := fun x hx => by
    have := row_le hx
    unfold weigh at hw
    omega
  have hl : l.length ≤ 1048576 := by
    unfold weigh at hw
    omega
  cases hL : linksB l with
  | false =>
    refine ⟨(false, false), ?_, ?_⟩
    · unfold spec_IsRoundless.f
      exact ev_bind (slinks_tells l hl hr) (ev_ite_neg (by simp [hL]) (ev_some fun _ => rfl))
    · unfold impl_IsRoundless.f
      exact ev_some_bind (links_tells l hr) (ev_ite_neg (by simp [hL]) (ev_some fun _ => rfl))
  | true =>
    have H := links_of hL
    refine ⟨if (List.range l.length).all (roundlessAt l) = true then (true, true) else (false, true), ?_, ?_⟩
    · unfold spec_IsRoundless.f
      refine ev_bind (slinks_tells l hl hr) (ev_ite_pos hL ?_)
      have round : ∀ (i : Nat), i < l.length → ∀ q, Ev (fun k => if (i : Int) ∈ rowAt l i then some (false, true) else if ((groupOf l i).length : Int) > 1 then some (false, true) else spec_IsRoundless.l0 k l l (l.length : Int) ((i + 1 : Nat) : Int)) q → Ev (fun k => spec_IsRoundless.l0 k l l (l.length : Int) (i : Int)) q := by
        intro i hi q hq
        have h12 := H.rowlen i (by omega) (by omega)
        refine Ev.step (f := fun k => (spec_l1Has.f k (rowAt l i) i).bind fun t => if t = true then some (false, true) else (spec_l9Group.f k l i).bind fun g => if (g.length : Int) > 1 then some (false, true) else spec_IsRoundless.l0 k l l (l.length : Int) ((i + 1 : Nat) : Int)) (fun k => ?_) (ev_bind (has_tells (rowAt l i) i (by omega)) ?_)
        · rw [spec_IsRoundless.l0, if_pos (by omega), if_pos (by omega), if_pos (by omega), next i (by omega)]
          rfl
        · by_cases hc : (i : Int) ∈ rowAt l i
          · refine ev_ite_pos (by simpa using hc) ?_
            simpa only [hc, if_true] using hq
          · refine ev_ite_neg (by simpa using hc) (ev_bind (sgroup_tells H (by omega) (by omega)) ?_)
            simpa only [hc, if_false] using hq
      refine scan_from (F := fun k i => spec_IsRoundless.l0 k l l (l.length : Int) (i : Int)) (p := roundlessAt l) (ev_stop fun k => by rw [spec_IsRoundless.l0, if_neg (by omega)]) (fun i hi hp q hq => round i hi q ?_) (fun i hi hp => round i hi _ ?_)
      · unfold roundlessAt at hp
        simp only [Bool.and_eq_true, Bool.not_eq_true', decide_eq_false_iff_not] at hp
        exact ev_ite_neg hp.1 (ev_ite_neg (by omega) hq)
      · unfold roundlessAt at hp
        by_cases hc : (i : Int) ∈ rowAt l i
        · exact ev_ite_pos hc (ev_some fun _ => rfl)
        · refine ev_ite_neg hc (ev_ite_pos ?_ (ev_some fun _ => rfl))
          simp only [hc, decide_false, Bool.not_false, Bool.true_and, Bool.not_eq_false', decide_eq_true_eq] at hp
          omega
    · unfold impl_IsRoundless.f
      refine ev_some_bind (links_tells l hr) (ev_ite_pos hL ?_)
      have round : ∀ (i : Nat), i < l.length → ∀ q, Ev (fun k => if ((groupOf l i).length : Int) > 1 then some (false, true) else if (i : Int) ∈ rowAt l i then some (false, true) else impl_IsRoundless.l0 k l l (l.length : Int) ((i + 1 : Nat) : Int)) q → Ev (fun k => impl_IsRoundless.l0 k l l (l.length : Int) (i : Int)) q := by
        intro i hi q hq
        have h12 := H.rowlen i (by omega) (by omega)
        refine Ev.step (f := fun k => (impl_group.f k l i).bind fun g => if (g.length : Int) > 1 then some (false, true) else (slices_Contains_int_int.f k (rowAt l i) i).bind fun t => if t = true then some (false, true) else impl_IsRoundless.l0 k l l (l.length : Int) ((i + 1 : Nat) : Int)) (fun k => ?_) (ev_bind (group_tells H (by omega) (by omega)) ?_)
        · rw [impl_IsRoundless.l0, if_pos (by omega), if_pos (by omega), if_pos (by omega), next i (by omega)]
          rfl
        · by_cases hg : ((groupOf l i).length : Int) > 1
          · refine ev_ite_pos hg ?_
            simpa only [hg, if_true] using hq
          · refine ev_ite_neg hg (ev_bind (contains_tells (rowAt l i) i (by omega)) ?_)
            simp only [hg, if_false] at hq
            by_cases hc : (i : Int) ∈ rowAt l i
            · refine ev_ite_pos (by simpa using hc) ?_
              simpa only [hc, if_true] using hq
            · refine ev_ite_neg (by simpa using hc) ?_
              simpa only [hc, if_false] using hq
      refine scan_from (F := fun k i => impl_IsRoundless.l0 k l l (l.length : Int) (i : Int)) (p := roundlessAt l) (ev_stop fun k => by rw [impl_IsRoundless.l0, if_neg (by omega)]) (fun i hi hp q hq => round i hi q ?_) (fun i hi hp => round i hi _ ?_)
      · unfold roundlessAt at hp
        simp only [Bool.and_eq_true, Bool.not_eq_true', decide_eq_false_iff_not] at hp
        exact ev_ite_neg (by omega) (ev_ite_neg hp.1 hq)
      · unfold roundlessAt at hp
        by_cases hg : ((groupOf l i).length : Int) > 1
        · exact ev_ite_pos hg (ev_some fun _ => rfl)
        · refine ev_ite_neg hg (ev_ite_pos ?_ (ev_some fun _ => rfl))
          by_cases hc : (i : Int) ∈ rowAt l i
          · exact hc
          · have hg' : ¬ (groupOf l i).length > 1 := by omega
            simp [hc, hg'] at hp

theorem split_same (l : List S98) (hl : l.length ≤ 1048576) : ∃ x : Bool × Bool, Ev (fun k => spec_CanSplit.f k l) x ∧ Ev (fun k => impl_CanSplit.f k l) x := by
  have g1 := sgoodsteps_tells l hl
  have g2 := goodsteps_tells l hl
  unfold spec_CanSplit.f impl_CanSplit.f
  cases h2 : stepsB l with
  | false =>
    exact ⟨(false, false), ev_bind g1 (ev_ite_neg (by simp [h2]) (ev_some fun _ => rfl)), ev_bind g2 (ev_ite_neg (by simp [h2]) (ev_some fun _ => rfl))⟩
  | true =>
    obtain ⟨ok, h10⟩ := stepsB_ok h2
    obtain ⟨s1, s2, hw⟩ := needsOf_tells l h10 ok
    generalize needsOf l = q at s1 s2 hw
    obtain ⟨⟨a, b⟩, r1, r2⟩ := roundless_same q hw
    exact ⟨(a, b), ev_bind g1 (ev_ite_pos h2 (ev_bind s1 (ev_bind r1 (ev_some fun _ => rfl)))), ev_bind g2 (ev_ite_pos h2 (ev_bind s2 (ev_bind r2 (ev_some fun _ => rfl))))⟩
theorem FnExactCanSplit : laws_FnExactCanSplit.Good := by
  intro l0 ⟨hm, _⟩
  refine Ev.rounds ?_
  unfold laws_FnExactCanSplit.f
  rw [szstep l0 hm]
  refine Ev.congr (fun k => Option.bind_some ..) ?_
  by_cases hg : 1048576 < (l0.length : Int)
  · rw [if_pos hg]
    exact ev_ite_pos (by decide) (ev_some fun _ => rfl)
  rw [if_neg hg]
  refine ev_ite_neg (by omega) ?_
  have hT := toStep_tells l0 (by omega)
  have hl : (l0.map convStep).length ≤ 1048576 := by simp; omega
  generalize l0.map convStep = t at hT hl
  obtain ⟨x, hs, hi⟩ := split_same t hl
  refine ev_bind hT (ev_bind hs (ev_bind hT (ev_bind hi (ev_ite_neg (by simp) ?_))))
  refine Ev.step (fun k => by rw [laws_FnExactCanSplit.j0]) ?_
  exact ev_ite_neg (by simp) (ev_bind hT (ev_bind (eqStep_tells t (by omega)) (ev_some fun _ => rfl)))

end Go.Proofs.Ytbaojaadmooogaa.Pure
