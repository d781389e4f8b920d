/- The law FnExactShrink: the program's function tells what the reference tells, for all arguments; here: of the two as plain functions of numbers and lists. -/
import Derived.Test.YteokbemieooeaaaQFnExactShrink
namespace Go.Proofs.Yteokbemieooeaaa.Pure
open Go.RowKit Go.Proofs.Yteokbemieooeaaa.PFnExactShrink Go.Proofs.YteokbemieooeaaaW.PrintWords Go.Proofs.YteokbemieooeaaaW.PrintLast Go.Proofs.YteokbemieooeaaaW.PrintMore
set_option linter.unusedVariables false
set_option linter.unusedSimpArgs false
set_option linter.unnecessarySimpa false

theorem rise_same : ∀ (k : Nat) (x0 : List Int) (x1 x2 : Int) (x9 : List Int) (x10 x11 : Int), spec_l1Rising.l0 k x0 x1 x2 x9 x10 x11 = impl_isRising.l0 k x0 x1 x2 x9 x10 x11
  | 0, _, _, _, _, _, _ => rfl
  | k + 1, x0, x1, x2, x9, x10, x11 => by
    rw [spec_l1Rising.l0, impl_isRising.l0]
    simp only [rise_same k]
    rfl
theorem srise_tells (l : List Int) (a b : Int) (hl : l.length ≤ 4611686018427387904) : Ev (fun k => spec_l1Rising.f k l a b) (riseB l a b) :=
  Ev.congr (fun k => rise_same k _ _ _ _ _ _) (rise_tells l a b hl)

/-- A rising row: its numbers as a set. -/
abbrev Up (l : List Int) : Prop := l.Pairwise (· < ·)
theorem up_ext : ∀ {l m : List Int}, Up l → Up m → (∀ y, y ∈ l ↔ y ∈ m) → l = m
  | [], [], _, _, _ => rfl
  | [], b :: m, _, _, h => by simpa using (h b).2 (by simp)
  | a :: l, [], _, _, h => by simpa using (h a).1 (by simp)
  | a :: l, b :: m, hl, hm, h => by
    have l1 := List.pairwise_cons.1 hl
    have m1 := List.pairwise_cons.1 hm
    have e : a = b := by
      rcases List.mem_cons.1 ((h a).1 (by simp)) with e | e
      · exact e
      · rcases List.mem_cons.1 ((h b).2 (by simp)) with e2 | e2
        · exact e2.symm
        · have := l1.1 b e2
          have := m1.1 a e
          omega
    subst e
    congr 1
    refine up_ext l1.2 m1.2 fun y => ⟨fun hy => ?_, fun hy => ?_⟩
    · rcases List.mem_cons.1 ((h y).1 (List.mem_cons_of_mem _ hy)) with e | e
      · have := l1.1 y hy
        omega
      · exact e
    · rcases List.mem_cons.1 ((h y).2 (List.mem_cons_of_mem _ hy)) with e | e
      · have := m1.1 y hy
        omega
      · exact e
def ins (x : Int) : List Int → List Int
  | [] => [x]
  | a :: l => if a < x then a :: ins x l else if a = x then a :: l else x :: a :: l
theorem mem_ins (x y : Int) : ∀ l : List Int, y ∈ ins x l ↔ y = x ∨ y ∈ l
  | [] => by simp [ins]
  | a :: l => by
    unfold ins
    split
    · rw [List.mem_cons, mem_ins x y l, List.mem_cons]
      exact ⟨fun h => h.elim (fun h => .inr (.inl h)) (fun h => h.elim .inl (fun h => .inr (.inr h))), fun h => h.elim (fun h => .inr (.inl h)) (fun h => h.elim .inl (fun h => .inr (.inr h)))⟩
    · split
      · rename_i h
        subst h
        simp
      · simp
theorem up_ins (x : Int) : ∀ {l : List Int}, Up l → Up (ins x l)
  | [], _ => by simp [ins]
  | a :: l, h => by
    have h1 := List.pairwise_cons.1 h
    unfold ins
    split
    · rename_i hx
      refine List.pairwise_cons.2 ⟨fun y hy => ?_, up_ins x h1.2⟩
      rcases (mem_ins x y l).1 hy with e | e
      · omega
      · exact h1.1 y e
    · split
      · exact h
      · refine List.pairwise_cons.2 ⟨fun y hy => ?_, h⟩
        rcases List.mem_cons.1 hy with e | e
        · omega
        · have := h1.1 y e
          omega
theorem ins_len (x : Int) : ∀ l : List Int, (ins x l).length ≤ l.length + 1
  | [] => by simp [ins]
  | a :: l => by
    have := ins_len x l
    unfold ins
    split
    · simp; omega
    · split <;> simp
theorem upto_of {d : Array Int} (hs : ∀ i j, i ≤ j → j < d.size → d[i]! ≤ d[j]!) : ∀ m, m ≤ d.size → Up (Lib.compactUpTo d m) ∧ ∀ y, y ∈ Lib.compactUpTo d m ↔ ∃ j, j < m ∧ d[j]! = y
  | 0, _ => by simp [Lib.compactUpTo]
  | m + 1, hm => by
    obtain ⟨h1, h2⟩ := upto_of hs m (by omega)
    rw [Lib.compactUpTo_succ]
    by_cases hk : Lib.keeps d m = true
    · rw [if_pos hk]
      refine ⟨List.pairwise_append.2 ⟨h1, by simp, fun y hy z hz => ?_⟩, fun y => ?_⟩
      · obtain ⟨j, hj, rfl⟩ := (h2 y).1 hy
        obtain rfl : z = d[m]! := by simpa using hz
        have hne : d[m]! ≠ d[m - 1]! := by
          simp only [Lib.keeps, decide_eq_true_eq] at hk
          rcases hk with h | h
          · omega
          · exact h
        have a1 := hs j (m - 1) (by omega) (by omega)
        have a2 := hs (m - 1) m (by omega) (by omega)
        omega
      · rw [List.mem_append, h2]
        constructor
        · rintro (⟨j, hj, e⟩ | e)
          · exact ⟨j, by omega, e⟩
          · exact ⟨m, by omega, (List.mem_singleton.1 e).symm⟩
        · rintro ⟨j, hj, e⟩
          by_cases hjm : j < m
          · exact .inl ⟨j, hjm, e⟩
          · obtain rfl : j = m := by omega
            exact .inr (by simp [e])
    · rw [if_neg hk, List.append_nil]
      refine ⟨h1, fun y => ?_⟩
      rw [h2]
      have hk2 : m ≠ 0 ∧ d[m]! = d[m - 1]! := by simpa [Lib.keeps] using hk
      constructor
      · rintro ⟨j, hj, e⟩
        exact ⟨j, by omega, e⟩
      · rintro ⟨j, hj, e⟩
        by_cases hjm : j < m
        · exact ⟨j, hjm, e⟩
        · obtain rfl : j = m := by omega
          exact ⟨j - 1, by omega, by rw [← hk2.2]; exact e⟩
/-- Sorted, and each but once: the rising row of the numbers. -/
def setOf (l : List Int) : List Int := Lib.compact (l.mergeSort fun x y => decide (x ≤ y))
theorem sort_le (l : List Int) : (l.mergeSort fun x y => decide (x ≤ y)).Pairwise (· ≤ ·) := by
  have h := List.pairwise_mergeSort (le := fun x y : Int => decide (x ≤ y)) (fun a b c h1 h2 => by simp only [decide_eq_true_eq] at *; omega) (fun a b => by simp only [Bool.or_eq_true, decide_eq_true_eq]; omega) l
  exact h.imp (fun h => by simpa using h)
theorem setOf_up_mem (l : List Int) : Up (setOf l) ∧ ∀ y, y ∈ setOf l ↔ y ∈ l := by
  have hs := sort_le l
  have hm : ∀ y, y ∈ (l.mergeSort fun x y => decide (x ≤ y)) ↔ y ∈ l := fun y => List.mem_mergeSort
  unfold setOf
  generalize (l.mergeSort fun x y => decide (x ≤ y)) = s at hs hm
  unfold Lib.compact
  obtain ⟨h1, h2⟩ := upto_of (d := s.toArray) (fun i j hij hj => by
    have hj' : j < s.length := by simpa using hj
    rw [getElem!_pos s.toArray i (by simp; omega), getElem!_pos s.toArray j (by simp; omega)]
    simp only [List.getElem_toArray]
    by_cases e : i = j
    · subst e
      exact Int.le_refl _
    · exact List.pairwise_iff_getElem.1 hs i j (by omega) hj' (by omega)) s.length (by simp)
  refine ⟨h1, fun y => (h2 y).trans (Iff.trans ?_ (hm y))⟩
  constructor
  · rintro ⟨j, hj, e⟩
    rw [getElem!_pos s.toArray j (by simpa using hj)] at e
    rw [← e]
    simp
  · intro hy
    obtain ⟨j, hj, e⟩ := List.mem_iff_getElem.1 hy
    exact ⟨j, hj, by rw [getElem!_pos s.toArray j (by simpa using hj)]; simpa using e⟩
theorem setOf_ins {l : List Int} (h : Up l) (x : Int) : setOf (l ++ [x]) = ins x l := by
  obtain ⟨h1, h2⟩ := setOf_up_mem (l ++ [x])
  refine up_ext h1 (up_ins x h) fun y => (h2 y).trans ?_
  rw [mem_ins, List.mem_append, List.mem_singleton]
  exact Or.comm
theorem set_add {L : List Int} (x : Int) : setOf (L ++ [x]) = ins x (setOf L) := by
  obtain ⟨h1, h2⟩ := setOf_up_mem (L ++ [x])
  obtain ⟨h3, h4⟩ := setOf_up_mem L
  refine up_ext h1 (up_ins x h3) fun y => (h2 y).trans ?_
  rw [mem_ins, h4, List.mem_append, List.mem_singleton]
  exact Or.comm
theorem setOf_len (L : List Int) : (setOf L).length ≤ L.length := by
  unfold setOf
  exact Nat.le_trans (Lib.compact_length_le _) (by simp)
theorem sort_nodup {L : List Int} (h : L.Nodup) : (L.mergeSort fun x y => decide (x ≤ y)) = setOf L := by
  obtain ⟨h3, h4⟩ := setOf_up_mem L
  have hs := sort_le L
  have hp : (L.mergeSort fun x y => decide (x ≤ y)).Nodup := (List.mergeSort_perm L _).nodup_iff.2 h
  have hu : Up (L.mergeSort fun x y => decide (x ≤ y)) := by
    refine (List.pairwise_iff_getElem.2 fun i j hi hj hij => ?_)
    have a := List.pairwise_iff_getElem.1 hs i j hi hj hij
    have b := List.pairwise_iff_getElem.1 hp i j hi hj hij
    omega
  exact up_ext hu h3 fun y => List.mem_mergeSort.trans (h4 y).symm

def inB (a b x : Int) : Bool := decide (a ≤ x) && decide (x ≤ b)
theorem drop_at (l : List Int) (i : Nat) (h : i < l.length) : l.drop i = l.getD i 0 :: l.drop (i + 1) := by
  rw [List.drop_eq_getElem_cons h]
  simp [List.getD, List.getElem?_eq_getElem h]
/-- What a search for a fault comes to, round by round. -/
theorem all_ends {F : Nat → Nat → Option Bool} {p : Nat → Bool} {r : Bool} {n : Nat} (stop : Ev (fun k => F k n) r) (go : ∀ i, i < n → p i = true → ∀ q, Ev (fun k => F k (i + 1)) q → Ev (fun k => F k i) q) (no : ∀ i, i < n → p i = false → Ev (fun k => F k i) false) :
    ∀ (d i : Nat), i + d = n → Ev (fun k => F k i) ((List.range' i d).all p && r)
  | 0, i, h => by
    obtain rfl : i = n := by omega
    simpa using stop
  | d + 1, i, h => by
    have ih := all_ends stop go no d (i + 1) (by omega)
    rw [List.range'_succ, List.all_cons, Bool.and_assoc]
    cases hp : p i with
    | true => simpa using go i (by omega) hp _ ih
    | false => simpa using no i (by omega) hp
theorem all_from {F : Nat → Nat → Option Bool} {p : Nat → Bool} {r : Bool} {n : Nat} (stop : Ev (fun k => F k n) r) (go : ∀ i, i < n → p i = true → ∀ q, Ev (fun k => F k (i + 1)) q → Ev (fun k => F k i) q) (no : ∀ i, i < n → p i = false → Ev (fun k => F k i) false) :
    Ev (fun k => F k 0) ((List.range n).all p && r) := by
  rw [List.range_eq_range']
  exact all_ends stop go no n 0 (by omega)
theorem next (i : Nat) (h : i < 4611686018427387904) : wrap64 ((i : Int) + 1) = ((i + 1 : Nat) : Int) := by
  rw [w64 (by omega) (by omega)]
  omega

def rowAt (l : List (List Int)) (k : Int) : List Int := l.getD k.toNat []
def linksB (l : List (List Int)) : Bool := decide (l.length ≤ 12) && l.all fun row => riseB row 0 ((l.length : Int) - 1)
/-- Each row names places of the whole, in rising order. -/
structure Links (l : List (List Int)) : Prop where
  len : l.length ≤ 12
  up : ∀ k : Int, 0 ≤ k → k < l.length → Up (rowAt l k)
  mem : ∀ k : Int, 0 ≤ k → k < l.length → ∀ x ∈ rowAt l k, 0 ≤ x ∧ x < l.length
theorem up_of_next : ∀ {l : List Int}, (∀ i, i + 1 < l.length → l.getD i 0 < l.getD (i + 1) 0) → Up l
  | [], _ => List.Pairwise.nil
  | [a], _ => by simp
  | a :: b :: l, h => by
    have h1 : Up (b :: l) := up_of_next fun i hi => by
      have := h (i + 1) (by simpa using hi)
      simpa using this
    have h2 := List.pairwise_cons.1 h1
    have hab : a < b := by simpa using h 0 (by simp)
    refine List.pairwise_cons.2 ⟨fun y hy => ?_, h1⟩
    rcases List.mem_cons.1 hy with e | e
    · omega
    · have := h2.1 y e
      omega
theorem rise_facts {l : List Int} {a b : Int} (h : riseB l a b = true) : Up l ∧ ∀ x ∈ l, a ≤ x ∧ x ≤ b := by
  unfold riseB okAt at h
  simp only [List.all_eq_true, List.mem_range, Bool.and_eq_true, Bool.or_eq_true, decide_eq_true_eq] at h
  refine ⟨up_of_next fun i hi => ?_, fun x hx => ?_⟩
  · have := (h (i + 1) hi).2
    rcases this with e | e
    · omega
    · simpa using e
  · obtain ⟨i, hi, rfl⟩ := List.mem_iff_getElem.1 hx
    have := (h i hi).1
    simpa [List.getD, List.getElem?_eq_getElem hi] using this
theorem links_of {l : List (List Int)} (h : linksB l = true) : Links l := by
  unfold linksB at h
  simp only [Bool.and_eq_true, decide_eq_true_eq, List.all_eq_true] at h
  have hm : ∀ k : Int, 0 ≤ k → k < l.length → rowAt l k ∈ l := fun k h0 h1 => by
    have h2 : k.toNat < l.length := by omega
    have := List.getElem_mem h2
    simpa [rowAt, List.getD, List.getElem?_eq_getElem h2] using this
  refine ⟨h.1, fun k h0 h1 => (rise_facts (h.2 _ (hm k h0 h1))).1, fun k h0 h1 x hx => ?_⟩
  have := (rise_facts (h.2 _ (hm k h0 h1))).2 x hx
  omega
theorem up_len : ∀ {l : List Int} {a b : Int}, Up l → (∀ x ∈ l, a ≤ x ∧ x < b) → a ≤ b → (l.length : Int) ≤ b - a
  | [], a, b, _, _, h => by simpa using h
  | c :: l, a, b, hu, hm, h => by
    have h1 := List.pairwise_cons.1 hu
    have hc := hm c (by simp)
    have := up_len (a := c + 1) (b := b) h1.2 (fun x hx => ⟨by have := h1.1 x hx; omega, (hm x (List.mem_cons_of_mem _ hx)).2⟩) (by omega)
    rw [List.length_cons]
    omega
theorem Links.rowlen {l : List (List Int)} (h : Links l) (k : Int) (h0 : 0 ≤ k) (h1 : k < l.length) : (rowAt l k).length ≤ 12 := by
  have := up_len (h.up k h0 h1) (h.mem k h0 h1) (by omega)
  have := h.len
  omega
theorem linksrow (l : List (List Int)) (i : Nat) : rd_L1 l (i : Int) = l.getD i [] := by simp [rd_L1]
theorem slinks_tells (l : List (List Int)) (hl : l.length ≤ 1048576) (hr : ∀ x ∈ l, x.length ≤ 1048576) : Ev (fun k => spec_GoodLinks.f k l) (linksB l) := by
  have e : linksB l = ((List.range l.length).all (fun i => riseB (l.getD i []) 0 ((l.length : Int) - 1)) && decide (l.length ≤ 12)) := by
    unfold linksB
    rw [Bool.and_comm]
    congr 1
    rw [Bool.eq_iff_iff]
    simp only [List.all_eq_true, List.mem_range]
    constructor
    · intro h i hi
      exact h _ (by have := List.getElem_mem hi; simpa [List.getD, List.getElem?_eq_getElem hi] using this)
    · intro h x hx
      obtain ⟨i, hi, rfl⟩ := List.mem_iff_getElem.1 hx
      have := h i hi
      simpa [List.getD, List.getElem?_eq_getElem hi] using this
  have round : ∀ (i : Nat), i < l.length → ∀ q, Ev (fun k => if riseB (l.getD i []) 0 ((l.length : Int) - 1) = true then spec_GoodLinks.l0 k l l (l.length : Int) ((i + 1 : Nat) : Int) else some false) q → Ev (fun k => spec_GoodLinks.l0 k l l (l.length : Int) (i : Int)) q := by
    intro i hi q hq
    have hm : l.getD i [] ∈ l := by have := List.getElem_mem hi; simpa [List.getD, List.getElem?_eq_getElem hi] using this
    have hm2 := hr _ hm
    refine Ev.step (f := fun k => (spec_l1Rising.f k (l.getD i []) 0 ((l.length : Int) - 1)).bind fun t => if t = true then spec_GoodLinks.l0 k l l (l.length : Int) ((i + 1 : Nat) : Int) else some false) (fun k => ?_) (ev_bind (srise_tells _ _ _ (by omega)) hq)
    rw [spec_GoodLinks.l0, if_pos (by omega), if_pos (by omega), if_pos (by omega), linksrow, next i (by omega), w64 (by omega) (by omega)]
  rw [e]
  refine all_from (F := fun k i => spec_GoodLinks.l0 k l l (l.length : Int) (i : Int)) (ev_stop fun k => ?_) (fun i hi hp q hq => round i hi q (ev_ite_pos hp hq)) (fun i hi hp => round i hi _ (ev_ite_neg (by rw [hp]; decide) (ev_some fun _ => rfl)))
  rw [spec_GoodLinks.l0, if_neg (by omega)]
  congr 1
  exact decide_eq_decide.2 (by omega)
theorem links_tells (l : List (List Int)) (hr : ∀ x ∈ l, x.length ≤ 1048576) : impl_GoodLinks.f l = some (linksB l) := by
  unfold impl_GoodLinks.f
  rw [if_pos fun x hx => by have := hr x hx; omega]
  rfl

theorem put_l (l : List Int) (x : Int) (hl : l.length ≤ 1000000000) : ∀ (d i : Nat), i + d = l.length → Ev (fun k => spec_l1Put.l0 k l x (i : Int)) (l.take i ++ ins x (l.drop i))
  | 0, i, h => ev_stop fun k => by
    rw [spec_l1Put.l0, if_neg (by omega)]
    simp only [Option.bind_some, Int.toNat_natCast, List.nil_append, List.length_nil, Nat.zero_add]
    rw [if_pos (by omega), if_pos (by omega), if_pos (by simp; omega), if_pos (by simp; omega), if_pos (by simp; omega), List.drop_of_length_le (by omega)]
    simp [ins]
  | d + 1, i, h => by
    have ih := put_l l x hl d (i + 1) (by omega)
    rw [drop_at l i (by omega), ins]
    have ha := drop_at l i (by omega)
    by_cases h1 : l.getD i 0 < x
    · rw [if_pos h1]
      refine ev_step (by
        have e : l.take (i + 1) = l.take i ++ [l.getD i 0] := by
          rw [List.take_succ_eq_append_getElem (by omega)]
          simp [List.getD, List.getElem?_eq_getElem (show i < l.length by omega)]
        rw [e, List.append_assoc] at ih
        exact ih) fun k => by
        rw [spec_l1Put.l0, if_pos (by omega), if_pos (by omega), rdn, if_pos h1, next i (by omega)]
    · rw [if_neg h1]
      by_cases h2 : l.getD i 0 = x
      · rw [if_pos h2]
        exact ev_stop fun k => by
          rw [spec_l1Put.l0, if_pos (by omega), if_pos (by omega), rdn, if_neg h1, if_pos h2, ← ha, List.take_append_drop]
      · rw [if_neg h2]
        exact ev_stop fun k => by
          rw [spec_l1Put.l0, if_pos (by omega), if_pos (by omega), rdn, if_neg h1, if_neg h2]
          simp only [Option.bind_some, Int.toNat_natCast, List.nil_append, List.length_nil, Nat.zero_add]
          rw [if_pos (by omega), if_pos (by simp; omega), if_pos (by simp; omega), if_pos (by simp; omega), ha]
          simp
theorem put_tells (l : List Int) (x : Int) (hl : l.length ≤ 1000000000) : Ev (fun k => spec_l1Put.f k l x) (ins x l) := by
  have h := put_l l x hl l.length 0 (by omega)
  rw [List.drop_zero, List.take_zero, List.nil_append] at h
  exact h

theorem has_l (l : List Int) (x : Int) (hl : l.length ≤ 4611686018427387903) : ∀ (d i : Nat), i + d = l.length → Ev (fun k => spec_l1Has.l0 k x l (l.length : Int) (i : Int)) (decide (x ∈ l.drop i))
  | 0, i, h => ev_stop fun k => by
    rw [spec_l1Has.l0, if_neg (by omega), List.drop_of_length_le (by omega)]
    simp
  | d + 1, i, h => by
    have ih := has_l l x hl d (i + 1) (by omega)
    rw [drop_at l i (by omega)]
    by_cases hx : l.getD i 0 = x
    · exact ev_stop fun k => by
        rw [spec_l1Has.l0, if_pos (by omega), if_pos (by omega), if_pos (by omega), rdn, if_pos hx, hx]
        simp
    · refine ev_step (r := decide (x ∈ l.getD i 0 :: l.drop (i + 1))) (by
        have e : decide (x ∈ l.getD i 0 :: l.drop (i + 1)) = decide (x ∈ l.drop (i + 1)) := decide_eq_decide.2 (by
          rw [List.mem_cons]
          exact ⟨fun h => h.resolve_left (fun h => hx h.symm), .inr⟩)
        rw [e]
        exact ih) fun k => by
        rw [spec_l1Has.l0, if_pos (by omega), if_pos (by omega), if_pos (by omega), rdn, if_neg hx, next i (by omega)]
theorem has_tells (l : List Int) (x : Int) (hl : l.length ≤ 4611686018427387903) : Ev (fun k => spec_l1Has.f k l x) (decide (x ∈ l)) := by
  have h := has_l l x hl l.length 0 (by omega)
  rw [List.drop_zero] at h
  exact h

theorem index_l (l : List Int) (x : Int) (hl : l.length ≤ 4611686018427387903) : ∀ (d i : Nat), i + d = l.length → ∃ r : Int, Ev (fun k => slices_Index_int_int.l0 k l x (l.length : Int) (i : Int)) r ∧ (r ≥ 0 ↔ x ∈ l.drop i)
  | 0, i, h => ⟨-1, ev_stop fun k => by
    rw [slices_Index_int_int.l0, if_neg (by omega)], by
    rw [List.drop_of_length_le (by omega)]
    simp⟩
  | d + 1, i, h => by
    obtain ⟨r, hr, hm⟩ := index_l l x hl d (i + 1) (by omega)
    rw [drop_at l i (by omega)]
    by_cases hx : x = l.getD i 0
    · refine ⟨i, ev_stop fun k => ?_, ?_⟩
      · rw [slices_Index_int_int.l0, if_pos (by omega), if_pos (by omega), if_pos (by omega), rdn, if_pos hx]
      · rw [hx]
        simp
    · refine ⟨r, ev_step hr fun k => ?_, hm.trans ?_⟩
      · rw [slices_Index_int_int.l0, if_pos (by omega), if_pos (by omega), if_pos (by omega), rdn, if_neg hx, next i (by omega)]
      · rw [List.mem_cons]
        exact ⟨.inr, fun h => h.resolve_left hx⟩
theorem contains_tells (l : List Int) (x : Int) (hl : l.length ≤ 4611686018427387903) : Ev (fun k => slices_Contains_int_int.f k l x) (decide (x ∈ l)) := by
  obtain ⟨r, hr, hm⟩ := index_l l x hl l.length 0 (by omega)
  rw [List.drop_zero] at hm
  unfold slices_Contains_int_int.f
  refine ev_bind (a := r) hr (ev_some fun _ => ?_)
  rw [decide_eq_decide.2 hm]

inductive Path (l : List (List Int)) (a : Int) : Int → Prop
  | refl : Path l a a
  | step {b c : Int} : Path l a b → c ∈ rowAt l b → Path l a c
theorem Path.trans {l : List (List Int)} {a b c : Int} (h : Path l a b) (k : Path l b c) : Path l a c := by
  induction k with
  | refl => exact h
  | step _ hc ih => exact ih.step hc
def addAll : List Int → List Int → List Int
  | L, [] => L
  | L, x :: xs => if x ∈ L then addAll L xs else addAll (L ++ [x]) xs
/-- What is kept while the search goes on: no place twice, all of them places. -/
structure Seen (n : Nat) (L : List Int) : Prop where
  nodup : L.Nodup
  mem : ∀ x ∈ L, 0 ≤ x ∧ x < n
theorem nodup_len : ∀ (n : Nat) {L : List Int}, L.Nodup → (∀ x ∈ L, 0 ≤ x ∧ x < n) → L.length ≤ n
  | 0, [], _, _ => by simp
  | 0, a :: L, _, h => by
    have := h a (by simp)
    omega
  | n + 1, L, hn, h => by
    have h1 : (L.erase (n : Int)).length ≤ n := nodup_len n (hn.erase _) fun x hx => by
      have h2 := (hn.mem_erase_iff).1 hx
      have h3 := h x h2.2
      have h4 := h2.1
      omega
    by_cases hm : (n : Int) ∈ L
    · rw [List.length_erase_of_mem hm] at h1
      omega
    · rw [List.erase_of_not_mem hm] at h1
      omega
theorem Seen.len {n : Nat} {L : List Int} (h : Seen n L) : L.length ≤ n := nodup_len n h.nodup h.mem
theorem Seen.add {n : Nat} {L : List Int} (h : Seen n L) {x : Int} (hx : x ∉ L) (h0 : 0 ≤ x ∧ x < n) : Seen n (L ++ [x]) := by
  refine ⟨List.nodup_append.2 ⟨h.nodup, by simp, fun a ha b hb => ?_⟩, fun y hy => ?_⟩
  · obtain rfl := List.mem_singleton.1 hb
    exact fun e => hx (e ▸ ha)
  · rcases List.mem_append.1 hy with e | e
    · exact h.mem y e
    · obtain rfl := List.mem_singleton.1 e
      exact h0
theorem addAll_facts {n : Nat} : ∀ (xs L : List Int), Seen n L → (∀ x ∈ xs, 0 ≤ x ∧ x < n) → Seen n (addAll L xs) ∧ L <+: addAll L xs ∧ ∀ y, y ∈ addAll L xs ↔ y ∈ L ∨ y ∈ xs
  | [], L, h, _ => by simp [addAll, h]
  | x :: xs, L, h, hx => by
    unfold addAll
    by_cases hm : x ∈ L
    · rw [if_pos hm]
      obtain ⟨a, b, c⟩ := addAll_facts xs L h fun y hy => hx y (List.mem_cons_of_mem _ hy)
      refine ⟨a, b, fun y => (c y).trans ?_⟩
      rw [List.mem_cons]
      exact ⟨fun h => h.elim .inl (fun h => .inr (.inr h)), fun h => h.elim .inl (fun h => h.elim (fun e => .inl (e ▸ hm)) .inr)⟩
    · rw [if_neg hm]
      obtain ⟨a, b, c⟩ := addAll_facts xs (L ++ [x]) (h.add hm (hx x (by simp))) fun y hy => hx y (List.mem_cons_of_mem _ hy)
      refine ⟨a, (List.prefix_append _ _).trans b, fun y => (c y).trans ?_⟩
      rw [List.mem_append, List.mem_singleton, List.mem_cons, or_assoc]
theorem getR (l : List (List Int)) (k : Int) : rd_L1 l k = rowAt l k := rfl
theorem inner_i {l : List (List Int)} (hl : l.length ≤ 12) (row : List Int) (hrow : row.length ≤ 1048576) (hx : ∀ x ∈ row, 0 ≤ x ∧ x < (l.length : Int)) (i : Int) (r : List Int) :
    ∀ (d j : Nat) (L : List Int), j + d = row.length → Seen l.length L → Ev (fun k => impl_reach.l0 k l (addAll L (row.drop j)) (wrap64 (i + 1))) r → Ev (fun k => impl_reach.l1 k l L i row (row.length : Int) (j : Int)) r
  | 0, j, L, h, hs, hr => by
    rw [List.drop_of_length_le (by omega)] at hr
    exact ev_step hr fun k => by rw [impl_reach.l1, if_neg (by omega)]; rfl
  | d + 1, j, L, h, hs, hr => by
    have hlen := hs.len
    rw [drop_at row j (by omega), addAll] at hr
    have hxm : row.getD j 0 ∈ row := by
      have := List.getElem_mem (show j < row.length by omega)
      simpa [List.getD, List.getElem?_eq_getElem (show j < row.length by omega)] using this
    refine Ev.step (f := fun k => (slices_Contains_int_int.f k L (row.getD j 0)).bind fun t => if t = true then impl_reach.l1 k l L i row (row.length : Int) ((j + 1 : Nat) : Int) else impl_reach.l1 k l (L ++ [row.getD j 0]) i row (row.length : Int) ((j + 1 : Nat) : Int)) (fun k => ?_) (ev_bind (contains_tells L _ (by omega)) ?_)
    · rw [impl_reach.l1, if_pos (by omega), if_pos (by omega), if_pos (by omega), rdn, next j (by omega)]
      refine congrArg (Option.bind _) (funext fun t => ?_)
      rw [if_pos (show L.length < 17592186044416 by omega)]
    · by_cases hm : row.getD j 0 ∈ L
      · rw [if_pos hm] at hr
        exact ev_ite_pos (by simpa using hm) (inner_i hl row hrow hx i r d (j + 1) L (by omega) hs hr)
      · rw [if_neg hm] at hr
        exact ev_ite_neg (by simpa using hm) (inner_i hl row hrow hx i r d (j + 1) (L ++ [row.getD j 0]) (by omega) (hs.add hm (hx _ hxm)) hr)
theorem inner_s {l : List (List Int)} (hl : l.length ≤ 12) (row : List Int) (hrow : row.length ≤ 1048576) (hx : ∀ x ∈ row, 0 ≤ x ∧ x < (l.length : Int)) (i : Nat) (r : List Int) :
    ∀ (d j : Nat) (L : List Int), j + d = row.length → i ≤ L.length → Seen l.length L → Ev (fun k => spec_l9Reach.l0 k l (setOf (addAll L (row.drop j))) ((addAll L (row.drop j)).drop i)) r → Ev (fun k => spec_l9Reach.l1 k l (setOf L) (L.drop i) row (row.length : Int) (j : Int)) r
  | 0, j, L, h, hi, hs, hr => by
    rw [List.drop_of_length_le (by omega)] at hr
    exact ev_step hr fun k => by rw [spec_l9Reach.l1, if_neg (by omega)]; rfl
  | d + 1, j, L, h, hi, hs, hr => by
    have hlen := hs.len
    have hslen := setOf_len L
    rw [drop_at row j (by omega), addAll] at hr
    have hxm : row.getD j 0 ∈ row := by
      have := List.getElem_mem (show j < row.length by omega)
      simpa [List.getD, List.getElem?_eq_getElem (show j < row.length by omega)] using this
    refine Ev.step (f := fun k => (spec_l1Has.f k (setOf L) (row.getD j 0)).bind fun t => if t = true then spec_l9Reach.l1 k l (setOf L) (L.drop i) row (row.length : Int) ((j + 1 : Nat) : Int) else (spec_l1Put.f k (setOf L) (row.getD j 0)).bind fun t => spec_l9Reach.l1 k l t (L.drop i ++ [row.getD j 0]) row (row.length : Int) ((j + 1 : Nat) : Int)) (fun k => ?_) (ev_bind (has_tells (setOf L) _ (by omega)) ?_)
    · rw [spec_l9Reach.l1, if_pos (by omega), if_pos (by omega), if_pos (by omega), rdn, next j (by omega)]
      refine congrArg (Option.bind _) (funext fun t => ?_)
      have hlt : (L.drop i).length < 17592186044416 := by rw [List.length_drop]; omega
      simp only [hlt, if_true]
    · by_cases hm : row.getD j 0 ∈ L
      · rw [if_pos hm] at hr
        exact ev_ite_pos (by simpa using ((setOf_up_mem L).2 _).2 hm) (inner_s hl row hrow hx i r d (j + 1) L (by omega) hi hs hr)
      · rw [if_neg hm] at hr
        have ih := inner_s hl row hrow hx i r d (j + 1) (L ++ [row.getD j 0]) (by omega) (by rw [List.length_append]; omega) (hs.add hm (hx _ hxm)) hr
        rw [set_add, List.drop_append_of_le_length hi] at ih
        exact ev_ite_neg (by simpa using fun h => hm (((setOf_up_mem L).2 _).1 h)) (ev_bind (put_tells (setOf L) _ (by omega)) ih)
theorem prefix_get {L M : List Int} (h : L <+: M) {j : Nat} (hj : j < L.length) : M.getD j 0 = L.getD j 0 := by
  have e := h.getElem hj
  have := h.length_le
  rw [List.getD, List.getD, List.getElem?_eq_getElem hj, List.getElem?_eq_getElem (by omega), ← e]
theorem stop_reach {l : List (List Int)} (H : Links l) (a : Int) (i : Nat) (L : List Int) (hi : i = L.length) (hs : Seen l.length L) (ha : a ∈ L) (hp : ∀ y ∈ L, Path l a y) (hc : ∀ j, j < i → ∀ y ∈ rowAt l (L.getD j 0), y ∈ L) :
    ∃ r, Up r ∧ (∀ y, y ∈ r ↔ Path l a y) ∧ (∀ y ∈ r, 0 ≤ y ∧ y < (l.length : Int)) ∧ Ev (fun k => spec_l9Reach.l0 k l (setOf L) (L.drop i)) r ∧ Ev (fun k => impl_reach.l0 k l L (i : Int)) r := by
  have hlen := hs.len
  have hl := H.len
  obtain ⟨u, m⟩ := setOf_up_mem L
  refine ⟨setOf L, u, fun y => (m y).trans ⟨hp y, fun h => ?_⟩, fun y hy => hs.mem y ((m y).1 hy), ?_, ?_⟩
  · induction h with
    | refl => exact ha
    | step _ hcc ih =>
      obtain ⟨j, hj, rfl⟩ := List.mem_iff_getElem.1 ih
      exact hc j (by omega) _ (by simpa [List.getD, List.getElem?_eq_getElem hj] using hcc)
  · rw [List.drop_of_length_le (by omega)]
    exact ev_stop fun k => by rw [spec_l9Reach.l0, if_neg (by simp)]
  · exact ev_stop fun k => by
      rw [impl_reach.l0, if_neg (by omega)]
      unfold slices_Sort_int_int.f
      rw [if_pos (by omega), Option.bind_some, sort_nodup hs.nodup]
theorem outer {l : List (List Int)} (H : Links l) (a : Int) : ∀ (d i : Nat) (L : List Int), i + d = l.length → i ≤ L.length → Seen l.length L → a ∈ L → (∀ y ∈ L, Path l a y) → (∀ j, j < i → ∀ y ∈ rowAt l (L.getD j 0), y ∈ L) →
    ∃ r, Up r ∧ (∀ y, y ∈ r ↔ Path l a y) ∧ (∀ y ∈ r, 0 ≤ y ∧ y < (l.length : Int)) ∧ Ev (fun k => spec_l9Reach.l0 k l (setOf L) (L.drop i)) r ∧ Ev (fun k => impl_reach.l0 k l L (i : Int)) r
  | 0, i, L, h, hi, hs, ha, hp, hc => stop_reach H a i L (by have := hs.len; omega) hs ha hp hc
  | d + 1, i, L, h, hi, hs, ha, hp, hc => by
    have hlen := hs.len
    have hl := H.len
    by_cases he : i = L.length
    · exact stop_reach H a i L he hs ha hp hc
    have hiL : i < L.length := by omega
    have hkm : L.getD i 0 ∈ L := by
      have := List.getElem_mem hiL
      simpa [List.getD, List.getElem?_eq_getElem hiL] using this
    obtain ⟨k0, k1⟩ := hs.mem _ hkm
    have hrm := H.mem _ k0 k1
    have hrl := H.rowlen _ k0 k1
    obtain ⟨f1, f2, f3⟩ := addAll_facts (rowAt l (L.getD i 0)) L hs hrm
    have hlen2 := f2.length_le
    have hget := fun j (hj : j < L.length) => prefix_get f2 hj
    obtain ⟨r, r1, r2, r3, r4, r5⟩ := outer H a d (i + 1) (addAll L (rowAt l (L.getD i 0))) (by omega) (by omega) f1 ((f3 a).2 (.inl ha))
      (fun y hy => by
        rcases (f3 y).1 hy with e | e
        · exact hp y e
        · exact (hp _ hkm).step e)
      (fun j hj y hy => by
        rw [hget j (by omega)] at hy
        by_cases hji : j = i
        · subst hji
          exact (f3 y).2 (.inr hy)
        · exact (f3 y).2 (.inl (hc j (by omega) y hy)))
    refine ⟨r, r1, r2, r3, ?_, ?_⟩
    · have hd : L.drop i = L.getD i 0 :: L.drop (i + 1) := drop_at L i hiL
      refine Ev.step (fun k => ?_) (inner_s hl (rowAt l (L.getD i 0)) (by omega) hrm (i + 1) r _ 0 L (Nat.zero_add _) (by omega) hs (by rw [List.drop_zero]; exact r4))
      rw [spec_l9Reach.l0, hd, if_pos (by rw [List.length_cons]; omega), if_pos (by rw [List.length_cons]; omega), if_pos (by rw [List.length_cons]; omega), show rd (L.getD i 0 :: L.drop (i + 1)) 0 = L.getD i 0 from rfl, if_pos k0, if_pos k1]
      rfl
    · refine Ev.step (fun k => ?_) (inner_i hl (rowAt l (L.getD i 0)) (by omega) hrm (i : Int) r _ 0 L (Nat.zero_add _) hs (by rw [List.drop_zero, next i (by omega)]; exact r5))
      rw [impl_reach.l0, if_pos (by omega), if_pos (by omega), rdn, if_pos k0, if_pos k1]
      rfl
theorem setOf_one (a : Int) : setOf [a] = [a] := by
  obtain ⟨u, m⟩ := setOf_up_mem [a]
  exact up_ext u (by simp) m
theorem reach_ex {l : List (List Int)} (H : Links l) (a : Int) (h0 : 0 ≤ a) (h1 : a < l.length) : ∃ r, Up r ∧ (∀ y, y ∈ r ↔ Path l a y) ∧ (∀ y ∈ r, 0 ≤ y ∧ y < (l.length : Int)) ∧ Ev (fun k => spec_l9Reach.f k l a) r ∧ Ev (fun k => impl_reach.f k l a) r := by
  have h := outer H a l.length 0 [a] (by omega) (by simp) ⟨by simp, fun x hx => by obtain rfl := List.mem_singleton.1 hx; exact ⟨h0, h1⟩⟩ (by simp) (fun y hy => by obtain rfl := List.mem_singleton.1 hy; exact .refl) (fun j hj => absurd hj (by omega))
  rw [setOf_one, List.drop_zero] at h
  exact h
/-- The places that can be reached from a, in rising order. -/
noncomputable def reachOf (l : List (List Int)) (a : Int) : List Int := open Classical in if h : ∃ r, Up r ∧ ∀ y, y ∈ r ↔ Path l a y then Classical.choose h else []
theorem reachOf_eq {l : List (List Int)} {a : Int} {r : List Int} (hu : Up r) (hm : ∀ y, y ∈ r ↔ Path l a y) : reachOf l a = r := by
  have h : ∃ r, Up r ∧ ∀ y, y ∈ r ↔ Path l a y := ⟨r, hu, hm⟩
  unfold reachOf
  rw [dif_pos h]
  obtain ⟨u, m⟩ := Classical.choose_spec h
  exact up_ext u hu fun y => (m y).trans (hm y).symm
structure ReachTold (l : List (List Int)) (a : Int) : Prop where
  up : Up (reachOf l a)
  mem : ∀ y, y ∈ reachOf l a ↔ Path l a y
  bd : ∀ y ∈ reachOf l a, 0 ≤ y ∧ y < (l.length : Int)
  s : Ev (fun k => spec_l9Reach.f k l a) (reachOf l a)
  i : Ev (fun k => impl_reach.f k l a) (reachOf l a)
theorem reach_told {l : List (List Int)} (H : Links l) {a : Int} (h0 : 0 ≤ a) (h1 : a < l.length) : ReachTold l a := by
  obtain ⟨r, u, m, b, s, i⟩ := reach_ex H a h0 h1
  have e := reachOf_eq u m
  refine ⟨by rw [e]; exact u, fun y => by rw [e]; exact m y, by rw [e]; exact b, by rw [e]; exact s, by rw [e]; exact i⟩
theorem ReachTold.len {l : List (List Int)} {a : Int} (h : ReachTold l a) : (reachOf l a).length ≤ l.length := by
  have := up_len h.up h.bd (by omega)
  omega

theorem ev_filtO {q : Nat → Int → Option Bool} {p : Int → Bool} : ∀ (xs : List Int), (∀ x ∈ xs, Ev (fun k => q k x) (p x)) → Ev (fun k => filtO (q k) xs) (xs.filter p) := by
  intro xs h
  have hK : ∃ K, ∀ k, K ≤ k → ∀ x ∈ xs, q k x = some (p x) := by
    induction xs with
    | nil => exact ⟨0, fun _ _ x hx => by simp at hx⟩
    | cons a xs ih =>
      obtain ⟨K1, h1⟩ := ih fun x hx => h x (List.mem_cons_of_mem _ hx)
      obtain ⟨K2, h2⟩ := h a (by simp)
      refine ⟨max K1 K2, fun k hk x hx => ?_⟩
      rcases List.mem_cons.1 hx with e | e
      · subst e
        exact h2 k (by omega)
      · exact h1 k (by omega) x e
  obtain ⟨K, hK⟩ := hK
  refine ⟨K, fun k hk => ?_⟩
  show filtO (q k) xs = _
  unfold filtO
  rw [if_pos]
  · congr 1
    exact List.filter_congr fun x hx => by rw [hK k hk x hx]; rfl
  · simp only [List.all_eq_true]
    intro x hx
    rw [hK k hk x hx]
    rfl
theorem ev_map {α β : Type} {g : Nat → Option α} {a : α} (f : α → β) (h : Ev g a) : Ev (fun k => (g k).map f) (f a) := by
  obtain ⟨K, hK⟩ := h
  exact ⟨K, fun k hk => by show (g k).map f = _; rw [hK k hk]; rfl⟩

noncomputable def groupOf (l : List (List Int)) (a : Int) : List Int := (reachOf l a).filter fun x => decide (a ∈ reachOf l x)
theorem group_tells {l : List (List Int)} (H : Links l) {a : Int} (h0 : 0 ≤ a) (h1 : a < l.length) : Ev (fun k => impl_group.f k l a) (groupOf l a) := by
  have hr := reach_told H h0 h1
  unfold impl_group.f groupOf
  refine ev_bind hr.i (ev_filtO _ fun x hx => ?_)
  obtain ⟨b0, b1⟩ := hr.bd x hx
  have e : decide (a ∈ reachOf l x) = (reachOf l x).contains a := by simp
  rw [e]
  exact ev_map (fun qs => qs.contains a) (reach_told H b0 b1).i
theorem sgroup_l {l : List (List Int)} (H : Links l) (a : Int) (rs : List Int) (hl : rs.length ≤ 1048576) (hb : ∀ x ∈ rs, 0 ≤ x ∧ x < (l.length : Int)) : ∀ (d i : Nat) (acc : List Int), i + d = rs.length → acc.length + d ≤ 1048576 → Ev (fun k => spec_l9Group.l0 k l a acc rs (rs.length : Int) (i : Int)) (acc ++ (rs.drop i).filter fun x => decide (a ∈ reachOf l x))
  | 0, i, acc, h, _ => ev_stop fun k => by
    rw [spec_l9Group.l0, if_neg (by omega), List.drop_of_length_le (by omega)]
    simp
  | d + 1, i, acc, h, hacc => by
    have hm : rs.getD i 0 ∈ rs := by
      have := List.getElem_mem (show i < rs.length by omega)
      simpa [List.getD, List.getElem?_eq_getElem (show i < rs.length by omega)] using this
    obtain ⟨b0, b1⟩ := hb _ hm
    have hr := reach_told H b0 b1
    have hlen := hr.len
    have hl12 := H.len
    rw [drop_at rs i (by omega)]
    refine Ev.step (f := fun k => (spec_l9Reach.f k l (rs.getD i 0)).bind fun t => (spec_l1Has.f k t a).bind fun u => if u = true then spec_l9Group.l0 k l a (acc ++ [rs.getD i 0]) rs (rs.length : Int) ((i + 1 : Nat) : Int) else spec_l9Group.l0 k l a acc rs (rs.length : Int) ((i + 1 : Nat) : Int)) (fun k => ?_) (ev_bind hr.s (ev_bind (has_tells _ a (by omega)) ?_))
    · have hlt : acc.length < 17592186044416 := by omega
      rw [spec_l9Group.l0, if_pos (by omega), if_pos (by omega), if_pos (by omega), rdn, next i (by omega)]
      simp only [hlt, if_true]
    · by_cases hc : a ∈ reachOf l (rs.getD i 0)
      · have ih := sgroup_l H a rs hl hb d (i + 1) (acc ++ [rs.getD i 0]) (by omega) (by rw [List.length_append, List.length_singleton]; omega)
        rw [List.append_assoc] at ih
        rw [List.filter_cons_of_pos (by simpa using hc)]
        exact ev_ite_pos (by simpa using hc) ih
      · have ih := sgroup_l H a rs hl hb d (i + 1) acc (by omega) (by omega)
        rw [List.filter_cons_of_neg (by simpa using hc)]
        exact ev_ite_neg (by simpa using hc) ih
theorem sgroup_tells {l : List (List Int)} (H : Links l) {a : Int} (h0 : 0 ≤ a) (h1 : a < l.length) : Ev (fun k => spec_l9Group.f k l a) (groupOf l a) := by
  have hr := reach_told H h0 h1
  have hlen := hr.len
  have hl12 := H.len
  unfold spec_l9Group.f groupOf
  refine ev_bind hr.s ?_
  have h := sgroup_l H a (reachOf l a) (by omega) hr.bd (reachOf l a).length 0 [] (by omega) (by simp; omega)
  rw [List.drop_zero, List.nil_append] at h
  exact h
theorem groupOf_mem {l : List (List Int)} (H : Links l) {a : Int} (h0 : 0 ≤ a) (h1 : a < l.length) (x : Int) : x ∈ groupOf l a ↔ Path l a x ∧ Path l x a := by
  have hr := reach_told H h0 h1
  unfold groupOf
  rw [List.mem_filter, hr.mem]
  constructor
  · rintro ⟨p, q⟩
    obtain ⟨b0, b1⟩ := hr.bd x ((hr.mem x).2 p)
    exact ⟨p, ((reach_told H b0 b1).mem a).1 (by simpa using q)⟩
  · rintro ⟨p, q⟩
    obtain ⟨b0, b1⟩ := hr.bd x ((hr.mem x).2 p)
    exact ⟨p, by simpa using ((reach_told H b0 b1).mem a).2 q⟩

theorem rdL1 (l : List (List Int)) (i : Nat) : rd_L1 l (i : Int) = l.getD i [] := by simp [rd_L1]
theorem drop_row (l : List (List Int)) (i : Nat) (h : i < l.length) : l.drop i = l.getD i [] :: l.drop (i + 1) := by
  rw [List.drop_eq_getElem_cons h]
  simp [List.getD, List.getElem?_eq_getElem h]
theorem concat_l1 (ls : List (List Int)) (hl : ls.length ≤ 4611686018427387903) : ∀ (d i : Nat) (acc : List Int), i + d = ls.length → acc.length + (ls.drop i).flatten.length < 17592186044416 → Ev (fun k => slices_Concat_int_int.l1 k acc ls (ls.length : Int) (i : Int)) (acc ++ (ls.drop i).flatten)
  | 0, i, acc, h, _ => ev_stop fun k => by
    rw [slices_Concat_int_int.l1, if_neg (by omega), List.drop_of_length_le (by omega)]
    simp
  | d + 1, i, acc, h, hb => by
    rw [drop_row ls i (by omega), List.flatten_cons, List.length_append] at hb
    have ih := concat_l1 ls hl d (i + 1) (acc ++ ls.getD i []) (by omega) (by rw [List.length_append]; omega)
    rw [drop_row ls i (by omega), List.flatten_cons, ← List.append_assoc]
    exact ev_step ih fun k => by
      rw [slices_Concat_int_int.l1, if_pos (by omega), if_pos (by omega), if_pos (by omega), rdL1, if_pos (by omega), next i (by omega)]
theorem concat_l0 (ls : List (List Int)) (hl : ls.length ≤ 4611686018427387903) (r : List Int) (hr : Ev (fun k => slices_Concat_int_int.l1 k [] ls (ls.length : Int) 0) r) : ∀ (d i : Nat) (s : Int), i + d = ls.length → 0 ≤ s → s + (ls.drop i).flatten.length < 17592186044416 → Ev (fun k => slices_Concat_int_int.l0 k ls s ls (ls.length : Int) (i : Int)) r
  | 0, i, s, h, h0, hb => by
    refine ev_step hr fun k => ?_
    rw [slices_Concat_int_int.l0, if_neg (by omega)]
    unfold slices_Grow_int_int.f
    rw [if_pos ⟨h0, by simp; omega⟩, Option.bind_some]
  | d + 1, i, s, h, h0, hb => by
    rw [drop_row ls i (by omega), List.flatten_cons, List.length_append] at hb
    have ih := concat_l0 ls hl r hr d (i + 1) (s + (ls.getD i []).length) (by omega) (by omega) (by omega)
    exact ev_step ih fun k => by
      rw [slices_Concat_int_int.l0, if_pos (by omega), if_pos (by omega), if_pos (by omega), rdL1, w64 (by omega) (by omega), if_neg (by omega), next i (by omega)]
theorem concat_tells (ls : List (List Int)) (hl : ls.length ≤ 4611686018427387903) (hb : ls.flatten.length < 17592186044416) : Ev (fun k => slices_Concat_int_int.f k ls) ls.flatten := by
  refine concat_l0 ls hl _ ?_ ls.length 0 0 (by omega) (by omega) (by rw [List.drop_zero]; omega)
  have h := concat_l1 ls hl ls.length 0 [] (by omega) (by rw [List.drop_zero, List.length_nil]; omega)
  rw [List.drop_zero, List.nil_append] at h
  exact h

/-- What holds from some number of rounds on. -/
def Evs (P : Nat → Prop) : Prop := ∃ K, ∀ k, K ≤ k → P k
theorem Evs.and {P Q : Nat → Prop} (h : Evs P) (h2 : Evs Q) : Evs (fun k => P k ∧ Q k) := by
  obtain ⟨K, hK⟩ := h
  obtain ⟨L, hL⟩ := h2
  exact ⟨max K L, fun k hk => ⟨hK k (by omega), hL k (by omega)⟩⟩
theorem Evs.of {P : Prop} (h : P) : Evs (fun _ => P) := ⟨0, fun _ _ => h⟩
theorem Evs.ev {α : Type} {g : Nat → Option α} {r : α} (h : Ev g r) : Evs (fun k => g k = some r) := h
theorem Evs.now {P : Nat → Prop} (h : Evs P) : ∃ k, P k := by
  obtain ⟨K, hK⟩ := h
  exact ⟨K, hK K (Nat.le_refl _)⟩
theorem Evs.mono {P Q : Nat → Prop} (h : Evs P) (hq : ∀ k, P k → Q k) : Evs Q := by
  obtain ⟨K, hK⟩ := h
  exact ⟨K, fun k hk => hq k (hK k hk)⟩

theorem nodup_sub_len : ∀ (a b : List Int), a.Nodup → (∀ x ∈ a, x ∈ b) → a.length ≤ b.length
  | [], b, _, _ => by simp
  | x :: a, b, hn, hs => by
    obtain ⟨hx, hn⟩ := List.nodup_cons.1 hn
    have hm := hs x (by simp)
    have ih := nodup_sub_len a (b.erase x) hn fun y hy => (List.mem_erase_of_ne (fun e => hx (by rw [← e]; exact hy))).2 (hs y (by simp [hy]))
    rw [List.length_erase_of_mem hm] at ih
    have := List.length_pos_of_mem hm
    rw [List.length_cons]
    omega
theorem find_same {α : Type} {p q : α → Bool} : ∀ xs : List α, (∀ x ∈ xs, p x = q x) → xs.findIdx? p = xs.findIdx? q
  | [], _ => rfl
  | x :: xs, h => by
    rw [List.findIdx?_cons, List.findIdx?_cons, h x (by simp), find_same xs fun y hy => h y (List.mem_cons_of_mem _ hy)]
theorem group_up {l : List (List Int)} (H : Links l) {a : Int} (h0 : 0 ≤ a) (h1 : a < l.length) : Up (groupOf l a) := (reach_told H h0 h1).up.filter _
theorem group_self {l : List (List Int)} (H : Links l) {a : Int} (h0 : 0 ≤ a) (h1 : a < l.length) : a ∈ groupOf l a := (groupOf_mem H h0 h1 a).2 ⟨.refl, .refl⟩
theorem group_bd {l : List (List Int)} (H : Links l) {a : Int} (h0 : 0 ≤ a) (h1 : a < l.length) : ∀ x ∈ groupOf l a, 0 ≤ x ∧ x < (l.length : Int) := fun x hx => (reach_told H h0 h1).bd x (List.mem_filter.1 hx).1
theorem group_len {l : List (List Int)} (H : Links l) {a : Int} (h0 : 0 ≤ a) (h1 : a < l.length) : (groupOf l a).length ≤ 12 := by
  have h := up_len (a := 0) (b := l.length) (group_up H h0 h1) (group_bd H h0 h1) (by omega)
  have := H.len
  omega
theorem group_eq {l : List (List Int)} (H : Links l) {a x : Int} (h0 : 0 ≤ a) (h1 : a < l.length) (hx : x ∈ groupOf l a) : groupOf l x = groupOf l a := by
  obtain ⟨x0, x1⟩ := group_bd H h0 h1 x hx
  obtain ⟨p, q⟩ := (groupOf_mem H h0 h1 x).1 hx
  refine up_ext (group_up H x0 x1) (group_up H h0 h1) fun y => ?_
  rw [groupOf_mem H x0 x1, groupOf_mem H h0 h1]
  exact ⟨fun h => ⟨p.trans h.1, h.2.trans q⟩, fun h => ⟨q.trans h.1, h.2.trans p⟩⟩
theorem reach_eq {l : List (List Int)} (H : Links l) {a x : Int} (h0 : 0 ≤ a) (h1 : a < l.length) (hx : x ∈ groupOf l a) : reachOf l x = reachOf l a := by
  obtain ⟨x0, x1⟩ := group_bd H h0 h1 x hx
  obtain ⟨p, q⟩ := (groupOf_mem H h0 h1 x).1 hx
  refine up_ext (reach_told H x0 x1).up (reach_told H h0 h1).up fun y => ?_
  rw [(reach_told H x0 x1).mem, (reach_told H h0 h1).mem]
  exact ⟨fun h => p.trans h, fun h => q.trans h⟩
theorem head_mem {g : List Int} (h : 0 < g.length) : g.getD 0 0 ∈ g := by
  have := List.getElem_mem h
  simpa [List.getD, List.getElem?_eq_getElem h] using this
theorem head_le {g : List Int} (hu : Up g) {x : Int} (hx : x ∈ g) : g.getD 0 0 ≤ x := by
  cases g with
  | nil => simp at hx
  | cons a g =>
    rcases List.mem_cons.1 hx with e | e
    · subst e
      simp
    · have := (List.pairwise_cons.1 hu).1 x e
      simp
      omega
/-- The groups, each told at its least node. -/
noncomputable def heads (l : List (List Int)) : Nat → Nat → List (List Int)
  | 0, _ => []
  | d + 1, i => if (groupOf l (i : Int)).getD 0 0 = (i : Int) then groupOf l (i : Int) :: heads l d (i + 1) else heads l d (i + 1)
theorem heads_mem (l : List (List Int)) (g : List Int) : ∀ d i, g ∈ heads l d i ↔ ∃ k : Nat, i ≤ k ∧ k < i + d ∧ (groupOf l (k : Int)).getD 0 0 = (k : Int) ∧ g = groupOf l (k : Int)
  | 0, i => by
    simp [heads]
    omega
  | d + 1, i => by
    have ih := heads_mem l g d (i + 1)
    unfold heads
    by_cases hc : (groupOf l (i : Int)).getD 0 0 = (i : Int)
    · rw [if_pos hc, List.mem_cons, ih]
      constructor
      · rintro (e | ⟨k, a, b, c, e⟩)
        · exact ⟨i, by omega, by omega, hc, e⟩
        · exact ⟨k, by omega, by omega, c, e⟩
      · rintro ⟨k, a, b, c, e⟩
        by_cases hk : k = i
        · subst hk
          exact .inl e
        · exact .inr ⟨k, by omega, by omega, c, e⟩
    · rw [if_neg hc, ih]
      constructor
      · rintro ⟨k, a, b, c, e⟩
        exact ⟨k, by omega, by omega, c, e⟩
      · rintro ⟨k, a, b, c, e⟩
        by_cases hk : k = i
        · subst hk
          exact absurd c hc
        · exact ⟨k, by omega, by omega, c, e⟩
theorem heads_sorted (l : List (List Int)) : ∀ d i, (heads l d i).Pairwise fun a b => a.getD 0 0 < b.getD 0 0
  | 0, i => by simp [heads]
  | d + 1, i => by
    have ih := heads_sorted l d (i + 1)
    unfold heads
    by_cases hc : (groupOf l (i : Int)).getD 0 0 = (i : Int)
    · rw [if_pos hc]
      refine List.pairwise_cons.2 ⟨fun g hg => ?_, ih⟩
      obtain ⟨k, a, b, c, e⟩ := (heads_mem l g d (i + 1)).1 hg
      rw [hc, e, c]
      omega
    · rw [if_neg hc]
      exact ih
theorem heads_len (l : List (List Int)) : ∀ d i, (heads l d i).length ≤ d
  | 0, i => by simp [heads]
  | d + 1, i => by
    have ih := heads_len l d (i + 1)
    unfold heads
    split
    · rw [List.length_cons]; omega
    · omega
theorem left_tells {l : List (List Int)} (H : Links l) : ∀ (d i : Nat) (left : List (List Int)), i + d = l.length → Ev (fun k => impl_groups.left k l d i left) (left ++ heads l d i)
  | 0, i, left, h => ev_some fun k => by
    rw [impl_groups.left, heads, List.append_nil]
  | d + 1, i, left, h => by
    have hg := group_tells H (a := (i : Int)) (by omega) (by omega)
    have hs := group_self H (a := (i : Int)) (by omega) (by omega)
    have hpos : 0 < (groupOf l (i : Int)).length := List.length_pos_of_mem hs
    refine Ev.congr (f := fun k => (impl_group.f k l (i : Int)).bind fun own => if 0 < own.length then (if own.getD 0 0 = (i : Int) then impl_groups.left k l d (i + 1) (left ++ [own]) else impl_groups.left k l d (i + 1) left) else none) (fun k => by rw [impl_groups.left]) (ev_bind hg (ev_ite_pos hpos ?_))
    unfold heads
    by_cases hc : (groupOf l (i : Int)).getD 0 0 = (i : Int)
    · have ih := left_tells H d (i + 1) (left ++ [groupOf l (i : Int)]) (by omega)
      rw [List.append_assoc] at ih
      rw [if_pos hc]
      exact ev_ite_pos hc ih
    · rw [if_neg hc]
      exact ev_ite_neg hc (left_tells H d (i + 1) left (by omega))
/-- What is kept while groups are told. -/
structure GInv (l : List (List Int)) (left out : List (List Int)) (told : List Int) : Prop where
  hd : ∀ g ∈ left, ∃ k : Int, 0 ≤ k ∧ k < l.length ∧ g.getD 0 0 = k ∧ g = groupOf l k
  srt : left.Pairwise fun a b => a.getD 0 0 < b.getD 0 0
  cov : ∀ x : Int, 0 ≤ x → x < l.length → x ∈ told ∨ groupOf l x ∈ left
  apart : ∀ x ∈ told, ∀ g ∈ left, x ∉ g
  nd : told.Nodup
  rng : ∀ x ∈ told, 0 ≤ x ∧ x < (l.length : Int)
  flat : told = out.flatten
  cnt : out.length + left.length ≤ 12
theorem GInv.len {l left out : List (List Int)} {told : List Int} (H : Links l) (I : GInv l left out told) : told.length ≤ 12 := by
  have := nodup_len l.length I.nd I.rng
  have := H.len
  omega
theorem ginv_start {l : List (List Int)} (H : Links l) : GInv l (heads l l.length 0) [] [] := by
  refine ⟨fun g hg => ?_, heads_sorted l _ _, fun x x0 x1 => .inr ?_, fun x hx => by simp at hx, by simp, fun x hx => by simp at hx, rfl, ?_⟩
  · obtain ⟨k, a, b, c, e⟩ := (heads_mem l g _ _).1 hg
    exact ⟨k, by omega, by omega, by rw [e, c], e⟩
  · have hs := group_self H x0 x1
    have hpos : 0 < (groupOf l x).length := List.length_pos_of_mem hs
    have hm := head_mem hpos
    obtain ⟨b0, b1⟩ := group_bd H x0 x1 _ hm
    have e := group_eq H x0 x1 hm
    refine (heads_mem l _ _ _).2 ⟨((groupOf l x).getD 0 0).toNat, by omega, by omega, ?_, ?_⟩
    · rw [Int.toNat_of_nonneg b0, e]
    · rw [Int.toNat_of_nonneg b0, e]
  · have := heads_len l l.length 0
    have := H.len
    simp
    omega
noncomputable def okP (l : List (List Int)) (told g : List Int) : Bool := (reachOf l (g.getD 0 0)).all fun n => (told ++ g).contains n
theorem ok_tells {l left out : List (List Int)} {told : List Int} (H : Links l) (I : GInv l left out told) {g : List Int} (hg : g ∈ left) : Ev (fun k => impl_groups.ok k l told g) (okP l told g) := by
  obtain ⟨a, a0, a1, ha, rfl⟩ := I.hd g hg
  have hlen := I.len H
  have hgl := group_len H a0 a1
  have hpos : 0 < (groupOf l a).length := List.length_pos_of_mem (group_self H a0 a1)
  have hc := concat_tells [told, groupOf l a] (by simp) (by simp; omega)
  simp only [List.flatten_cons, List.flatten_nil, List.append_nil] at hc
  unfold impl_groups.ok okP
  rw [ha]
  exact ev_bind hc (ev_ite_pos hpos (ev_map (fun rs => rs.all fun n => (told ++ groupOf l a).contains n) (reach_told H a0 a1).i))
/-- Some group is ready. -/
theorem ginv_some {l left out : List (List Int)} {told : List Int} (H : Links l) (I : GInv l left out told) (hl : left ≠ []) : ∃ g ∈ left, okP l told g = true := by
  -- a node that is not told, with the least reach
  have key : ∀ (n : Nat) (x : Int), 0 ≤ x → x < l.length → x ∉ told → (reachOf l x).length ≤ n → ∃ g ∈ left, okP l told g = true := by
    intro n
    induction n with
    | zero =>
      intro x x0 x1 hx hn
      have := List.length_pos_of_mem (((reach_told H x0 x1).mem x).2 .refl)
      omega
    | succ n ih =>
      intro x x0 x1 hx hn
      have hR := reach_told H x0 x1
      by_cases hc : ∀ y ∈ reachOf l x, y ∈ told ∨ y ∈ groupOf l x
      · have hgl : groupOf l x ∈ left := (I.cov x x0 x1).resolve_left hx
        refine ⟨groupOf l x, hgl, ?_⟩
        have hm := head_mem (List.length_pos_of_mem (group_self H x0 x1))
        unfold okP
        rw [reach_eq H x0 x1 hm, List.all_eq_true]
        intro y hy
        rw [List.contains_iff_mem, List.mem_append]
        exact hc y hy
      · obtain ⟨y, hy⟩ := Classical.not_forall.1 hc
        obtain ⟨hyr, hyn⟩ := Classical.not_imp.1 hy
        have hyt : y ∉ told := fun h => hyn (.inl h)
        have hyg : y ∉ groupOf l x := fun h => hyn (.inr h)
        obtain ⟨y0, y1⟩ := hR.bd y hyr
        have hRy := reach_told H y0 y1
        have hp := (hR.mem y).1 hyr
        have hsub : ∀ z ∈ reachOf l y, z ∈ reachOf l x := fun z hz => (hR.mem z).2 (hp.trans ((hRy.mem z).1 hz))
        have hxn : x ∉ reachOf l y := fun h => hyg ((groupOf_mem H x0 x1 y).2 ⟨hp, (hRy.mem x).1 h⟩)
        have hlt : (reachOf l y).length < (reachOf l x).length := by
          have hnd : (x :: reachOf l y).Nodup := List.nodup_cons.2 ⟨hxn, hRy.up.imp fun h => by omega⟩
          have := nodup_sub_len _ (reachOf l x) hnd (fun z hz => by
            rcases List.mem_cons.1 hz with e | e
            · rw [e]; exact (hR.mem x).2 .refl
            · exact hsub z e)
          rw [List.length_cons] at this
          omega
        exact ih y y0 y1 hyt (by omega)
  obtain ⟨g, hg⟩ := List.exists_mem_of_ne_nil left hl
  obtain ⟨a, a0, a1, ha, rfl⟩ := I.hd g hg
  have hself := group_self H a0 a1
  exact key _ a a0 a1 (fun h => I.apart a h _ hg hself) (Nat.le_refl _)
theorem ginv_step {l left out : List (List Int)} {told : List Int} (H : Links l) (I : GInv l left out told) (j : Nat) (hj : j < left.length) : GInv l (left.eraseIdx j) (out ++ [left.getD j []]) (told ++ left.getD j []) := by
  have hm : left.getD j [] ∈ left := by
    have := List.getElem_mem hj
    simpa [List.getD, List.getElem?_eq_getElem hj] using this
  have hge : left.getD j [] = left[j] := by simp [List.getD, List.getElem?_eq_getElem hj]
  obtain ⟨a, a0, a1, ha, hga⟩ := I.hd _ hm
  have hsub : ∀ g ∈ left.eraseIdx j, g ∈ left := fun g hg => (List.eraseIdx_sublist left j).subset hg
  have hne : ∀ g ∈ left.eraseIdx j, g ≠ left.getD j [] := by
    intro g hg e
    obtain ⟨i, hi, hge2⟩ := List.mem_iff_getElem.1 hg
    rw [List.getElem_eraseIdx] at hge2
    have hil : i < (left.eraseIdx j).length := hi
    rw [List.length_eraseIdx, if_pos hj] at hil
    rw [hge] at e
    have hs := List.pairwise_iff_getElem.1 I.srt
    split at hge2
    · have := hs i j (by omega) hj (by omega)
      rw [hge2, e] at this
      omega
    · have := hs j (i + 1) hj (by omega) (by omega)
      rw [hge2, e] at this
      omega
  generalize hGd : left.getD j [] = G at hm ha hga hne ⊢
  have hgu := group_up H a0 a1
  refine ⟨fun g hg => I.hd g (hsub g hg), I.srt.sublist (List.eraseIdx_sublist left j), fun x x0 x1 => ?_, fun x hx g hg hxg => ?_, ?_, fun x hx => ?_, ?_, ?_⟩
  · rcases I.cov x x0 x1 with h | h
    · exact .inl (List.mem_append_left _ h)
    · by_cases hG : groupOf l x = G
      · exact .inl (List.mem_append_right _ (hG ▸ group_self H x0 x1))
      · right
        obtain ⟨i, hi, he⟩ := List.mem_iff_getElem.1 h
        have hij : i ≠ j := fun e => by
          subst e
          rw [he] at hge
          exact hG (by rw [← hge, hGd])
        rw [List.mem_iff_getElem]
        by_cases hlt : i < j
        · exact ⟨i, by rw [List.length_eraseIdx, if_pos hj]; omega, by rw [List.getElem_eraseIdx, dif_pos hlt]; exact he⟩
        · refine ⟨i - 1, by rw [List.length_eraseIdx, if_pos hj]; omega, ?_⟩
          rw [List.getElem_eraseIdx, dif_neg (by omega)]
          have e1 : i - 1 + 1 = i := by omega
          simp only [e1]
          exact he
  · rcases List.mem_append.1 hx with h | h
    · exact I.apart x h g (hsub g hg) hxg
    · obtain ⟨b, b0, b1, hb, hgb⟩ := I.hd g (hsub g hg)
      rw [hga] at h
      rw [hgb] at hxg
      have e1 := group_eq H a0 a1 h
      have e2 := group_eq H b0 b1 hxg
      exact hne g hg (by rw [hgb, hga, ← e1, e2])
  · refine List.nodup_append.2 ⟨I.nd, ?_, fun x hx y hy e => ?_⟩
    · rw [hga]
      exact hgu.imp fun h => by omega
    · subst e
      exact I.apart x hx G hm hy
  · rcases List.mem_append.1 hx with h | h
    · exact I.rng x h
    · rw [hga] at h
      exact group_bd H a0 a1 x h
  · rw [List.flatten_append, ← I.flat]
    simp
  · have := I.cnt
    rw [List.length_append, List.length_singleton, List.length_eraseIdx, if_pos hj]
    omega
theorem sready_tells {done g : List Int} (hd : done.length ≤ 1000) (hg : g.length ≤ 1000) : ∀ (xs : List Int) (b : Bool), Ev (fun k => spec_l9Groups.ready k done g xs b) (b && xs.all fun x => decide (x ∈ done) || decide (x ∈ g))
  | [], b => ev_some fun k => by
    rw [spec_l9Groups.ready]
    simp
  | x :: xs, b => by
    refine Ev.congr (f := fun k => if b = true then ((spec_l1Has.f k done x).bind fun t => if t = true then spec_l9Groups.ready k done g xs true else (spec_l1Has.f k g x).bind fun u => spec_l9Groups.ready k done g xs u) else spec_l9Groups.ready k done g xs false) (fun k => by rw [spec_l9Groups.ready]) ?_
    rw [List.all_cons]
    cases b with
    | false =>
      have ih := sready_tells hd hg xs false
      exact ev_ite_neg (by simp) (by simpa using ih)
    | true =>
      refine ev_ite_pos rfl (ev_bind (has_tells done x (by omega)) ?_)
      by_cases hx : x ∈ done
      · have ih := sready_tells hd hg xs true
        rw [decide_eq_true hx]
        exact ev_ite_pos rfl (by simpa using ih)
      · have ih := sready_tells hd hg xs (decide (x ∈ g))
        rw [decide_eq_false hx]
        exact ev_ite_neg (by simp) (ev_bind (has_tells g x (by omega)) (by simpa using ih))
theorem sput_tells : ∀ (xs L : List Int), L.length + xs.length ≤ 1000 → Ev (fun k => spec_l9Groups.put k xs (setOf L)) (setOf (L ++ xs))
  | [], L, h => ev_some fun k => by
    rw [spec_l9Groups.put, List.append_nil]
  | x :: xs, L, h => by
    have hl := setOf_len L
    have ih := sput_tells xs (L ++ [x]) (by rw [List.length_append, List.length_singleton]; rw [List.length_cons] at h; omega)
    rw [set_add, List.append_assoc] at ih
    rw [List.length_cons] at h
    exact Ev.congr (f := fun k => (spec_l1Put.f k (setOf L) x).bind fun d => spec_l9Groups.put k xs d) (fun k => by rw [spec_l9Groups.put]) (ev_bind (put_tells (setOf L) x (by omega)) ih)
/-- The reference comes to the same group: it is the first ready one's least node. -/
theorem sfind_tells {l left out : List (List Int)} {told : List Int} (H : Links l) (I : GInv l left out told) (j : Nat) (hj : j < left.length) (hok : okP l told (left.getD j []) = true) (hno : ∀ i, i < j → okP l told (left.getD i []) = false) :
    ∀ (d i : Nat), i + d = l.length → (i : Int) ≤ (left.getD j []).getD 0 0 → Ev (fun k => spec_l9Groups.find k l (setOf told) d i) (some (left.getD j [])) := by
  have hm : left.getD j [] ∈ left := by
    have := List.getElem_mem hj
    simpa [List.getD, List.getElem?_eq_getElem hj] using this
  obtain ⟨a, a0, a1, ha, hga⟩ := I.hd _ hm
  have hlen := I.len H
  have hsl := setOf_len told
  have hdm := (setOf_up_mem told).2
  intro d
  induction d with
  | zero =>
    intro i h hi
    omega
  | succ d ih =>
    intro i h hi
    have i0 : (0 : Int) ≤ (i : Int) := by omega
    have i1 : (i : Int) < l.length := by omega
    refine Ev.congr (f := fun k => (spec_l1Has.f k (setOf told) (i : Int)).bind fun t => if t = true then spec_l9Groups.find k l (setOf told) d (i + 1) else (spec_l9Group.f k l (i : Int)).bind fun g => (spec_l9Reach.f k l (i : Int)).bind fun xs => (spec_l9Groups.ready k (setOf told) g xs true).bind fun b => if b = true then some (some g) else spec_l9Groups.find k l (setOf told) d (i + 1)) (fun k => by rw [spec_l9Groups.find]) (ev_bind (has_tells (setOf told) (i : Int) (by omega)) ?_)
    by_cases ht : (i : Int) ∈ told
    · rw [decide_eq_true ((hdm _).2 ht)]
      refine ev_ite_pos rfl (ih (i + 1) (by omega) ?_)
      have : (i : Int) ≠ (left.getD j []).getD 0 0 := fun e => by
        rw [ha] at e
        exact I.apart _ ht _ hm (by rw [hga, e]; exact group_self H a0 a1)
      omega
    · rw [decide_eq_false (fun h => ht ((hdm _).1 h))]
      have hgl := group_len H i0 i1
      refine ev_ite_neg (by simp) (ev_bind (sgroup_tells H i0 i1) (ev_bind (reach_told H i0 i1).s (ev_bind (sready_tells (by omega) (by omega) (reachOf l (i : Int)) true) ?_)))
      rw [Bool.true_and]
      have hgi : groupOf l (i : Int) ∈ left := (I.cov _ i0 i1).resolve_left ht
      have hhd := head_mem (List.length_pos_of_mem (group_self H i0 i1))
      have hre := reach_eq H i0 i1 hhd
      have hok2 : ((reachOf l (i : Int)).all fun x => decide (x ∈ setOf told) || decide (x ∈ groupOf l (i : Int))) = okP l told (groupOf l (i : Int)) := by
        unfold okP
        rw [hre]
        refine congrArg (fun f => (reachOf l (i : Int)).all f) (funext fun x => ?_)
        rw [Bool.eq_iff_iff]
        simp only [Bool.or_eq_true, decide_eq_true_eq, List.contains_iff_mem, List.mem_append, hdm]
      rw [hok2]
      by_cases hii : (i : Int) = (left.getD j []).getD 0 0
      · have hG : groupOf l (i : Int) = left.getD j [] := by rw [hii, ha]; exact hga.symm
        rw [hG, hok]
        exact ev_ite_pos rfl (ev_some fun _ => rfl)
      · have hno2 : okP l told (groupOf l (i : Int)) = false := by
          obtain ⟨m, hml, hme⟩ := List.mem_iff_getElem.1 hgi
          have hle := head_le (group_up H i0 i1) (group_self H i0 i1)
          have hs := List.pairwise_iff_getElem.1 I.srt
          have hjg : left.getD j [] = left[j] := by simp [List.getD, List.getElem?_eq_getElem hj]
          have hmj : m < j := by
            rcases Nat.lt_trichotomy m j with h | h | h
            · exact h
            · subst h
              rw [← hme, ← hjg] at hle
              omega
            · have := hs j m hj hml h
              rw [hme, ← hjg] at this
              omega
          have := hno m hmj
          rwa [show left.getD m [] = groupOf l (i : Int) by simp [List.getD, List.getElem?_eq_getElem hml, hme]] at this
        rw [hno2]
        exact ev_ite_neg (by simp) (ih (i + 1) (by omega) (by omega))
theorem list_ok {l left out : List (List Int)} {told : List Int} (H : Links l) (I : GInv l left out told) : ∀ (xs : List (List Int)), (∀ x ∈ xs, x ∈ left) → ∃ K, ∀ k, K ≤ k → ∀ x ∈ xs, impl_groups.ok k l told x = some (okP l told x)
  | [], _ => ⟨0, fun _ _ x hx => by simp at hx⟩
  | a :: xs, h => by
    obtain ⟨K1, h1⟩ := list_ok H I xs fun x hx => h x (List.mem_cons_of_mem _ hx)
    obtain ⟨K2, h2⟩ := ok_tells H I (h a (by simp))
    refine ⟨max K1 K2, fun k hk x hx => ?_⟩
    rcases List.mem_cons.1 hx with e | e
    · subst e
      exact h2 k (by omega)
    · exact h1 k (by omega) x e
theorem groups_go {l : List (List Int)} (H : Links l) : ∀ (d : Nat) (left out : List (List Int)) (told : List Int), left.length = d → GInv l left out told → ∃ R : List (List Int), Ev (fun k => impl_groups.pick k l d left out told) R ∧ (∀ m, d ≤ m → Ev (fun k => spec_l9Groups.go k l m out (setOf told)) R) ∧ R.length ≤ 12 ∧ R.flatten.Nodup ∧ ∀ x ∈ R.flatten, 0 ≤ x ∧ x < (l.length : Int)
  | 0, left, out, told, hd, I => by
    have hle := I.cnt
    obtain rfl : left = [] := List.length_eq_zero_iff.1 hd
    have hall : ∀ x : Int, 0 ≤ x → x < l.length → x ∈ told := fun x x0 x1 => (I.cov x x0 x1).resolve_right (by simp)
    have hge : ¬ (setOf told).length < l.length := by
      have hn : ((List.range l.length).map Int.ofNat).Nodup := List.pairwise_map.2 (List.nodup_range.imp fun {a b} h e => h (by have e2 : (a : Int) = (b : Int) := e; omega))
      have := nodup_sub_len _ (setOf told) hn (fun x hx => by
        obtain ⟨i, hi, rfl⟩ := List.mem_map.1 hx
        have := List.mem_range.1 hi
        exact ((setOf_up_mem told).2 _).2 (hall _ (by simp) (by simp; omega)))
      rw [List.length_map, List.length_range] at this
      omega
    refine ⟨out, ev_some fun k => by rw [impl_groups.pick], fun m _ => ?_, by rw [List.length_nil] at hle; omega, by rw [← I.flat]; exact I.nd, by rw [← I.flat]; exact I.rng⟩
    cases m with
    | zero => exact ev_some fun k => by rw [spec_l9Groups.go, if_neg hge]
    | succ m => exact ev_some fun k => by rw [spec_l9Groups.go, if_neg hge]
  | d + 1, left, out, told, hd, I => by
    have hne : left ≠ [] := fun e => by rw [e] at hd; simp at hd
    obtain ⟨g0, hg0, hok0⟩ := ginv_some H I hne
    obtain ⟨j, hfi⟩ : ∃ j, left.findIdx? (okP l told) = some j := by
      cases hf : left.findIdx? (okP l told) with
      | none => exact absurd hok0 (by rw [List.findIdx?_eq_none_iff.1 hf g0 hg0]; simp)
      | some j => exact ⟨j, rfl⟩
    obtain ⟨hj, hpj, hnj⟩ := List.findIdx?_eq_some_iff_getElem.1 hfi
    have hgj : left.getD j [] = left[j] := by simp [List.getD, List.getElem?_eq_getElem hj]
    have I2 := ginv_step H I j hj
    obtain ⟨R, r1, r2, r3, r4, r5⟩ := groups_go H d (left.eraseIdx j) (out ++ [left.getD j []]) (told ++ left.getD j []) (by rw [List.length_eraseIdx, if_pos hj]; omega) I2
    have hlen := I.len H
    have hlen2 := I2.len H
    rw [List.length_append] at hlen2
    refine ⟨R, ?_, fun m hm => ?_, r3, r4, r5⟩
    · obtain ⟨K, hK⟩ := list_ok H I left fun x hx => hx
      obtain ⟨K2, hK2⟩ := r1
      refine ⟨max K K2, fun k hk => ?_⟩
      have h1 := hK k (by omega)
      show impl_groups.pick k l (d + 1) left out told = some R
      rw [impl_groups.pick, if_pos fun x hx => by rw [h1 x hx]; rfl]
      have h2 : (left.findIdx? fun x => (impl_groups.ok k l told x).getD false) = left.findIdx? (okP l told) := find_same left fun x hx => by rw [h1 x hx]; rfl
      rw [h2, hfi, Option.bind_some, if_pos (show h_fits told (left.getD j []) = true from decide_eq_true (by omega))]
      exact hK2 k (by omega)
    · obtain ⟨m, rfl⟩ : ∃ m', m = m' + 1 := ⟨m - 1, by omega⟩
      obtain ⟨a, a0, a1, ha, hga⟩ := I.hd (left.getD j []) (by rw [hgj]; exact List.getElem_mem hj)
      have hlt : (setOf told).length < l.length := by
        have hat : a ∉ told := fun h => I.apart a h (left.getD j []) (by rw [hgj]; exact List.getElem_mem hj) (by rw [hga]; exact group_self H a0 a1)
        have h1 := nodup_len l.length (List.nodup_cons.2 ⟨hat, I.nd⟩) (fun x hx => by
          rcases List.mem_cons.1 hx with e | e
          · subst e; exact ⟨a0, a1⟩
          · exact I.rng x e)
        have h2 := setOf_len told
        rw [List.length_cons] at h1
        omega
      have hf := sfind_tells H I j hj (by rw [hgj]; exact hpj) (fun i hi => by
        have := hnj i hi
        have hil : i < left.length := by omega
        rw [show left.getD i [] = left[i] by simp [List.getD, List.getElem?_eq_getElem hil]]
        simpa using this) l.length 0 (by omega) (by rw [ha]; exact a0)
      have hp := sput_tells (left.getD j []) told (by omega)
      exact Ev.congr (f := fun k => if (setOf told).length < l.length then (spec_l9Groups.find k l (setOf told) l.length 0).bind fun og => og.bind fun g => (spec_l9Groups.put k g (setOf told)).bind fun done' => spec_l9Groups.go k l m (out ++ [g]) done' else some out) (fun k => by rw [spec_l9Groups.go]) (ev_ite_pos hlt (ev_bind hf (ev_some_bind rfl (ev_bind hp (r2 m (by omega))))))
theorem groups_tells {l : List (List Int)} (H : Links l) : ∃ R : List (List Int), Ev (fun k => spec_l9Groups.f k l) R ∧ Ev (fun k => impl_groups.f k l) R ∧ R.length ≤ 12 ∧ R.flatten.length ≤ 12 ∧ R.flatten.Nodup ∧ ∀ x ∈ R.flatten, 0 ≤ x ∧ x < (l.length : Int) := by
  have hl := H.len
  obtain ⟨R, r1, r2, r3, r4, r5⟩ := groups_go H (heads l l.length 0).length (heads l l.length 0) [] [] rfl (ginv_start H)
  have h3 := heads_len l l.length 0
  have h1 := left_tells H l.length 0 [] (by omega)
  rw [List.nil_append] at h1
  have h2 := r2 12 (by omega)
  have e0 : setOf [] = [] := up_ext (setOf_up_mem []).1 .nil (setOf_up_mem []).2
  rw [e0] at h2
  have hn := nodup_len l.length r4 r5
  refine ⟨R, ?_, ?_, r3, by omega, r4, r5⟩
  · unfold spec_l9Groups.f
    exact ev_ite_pos hl h2
  · unfold impl_groups.f
    exact ev_ite_pos hl (ev_bind h1 r1)

theorem sin_tells (a b c : Int) : spec_l1In.f a b c = some (decide (b ≤ a) && decide (a ≤ c)) := by
  unfold spec_l1In.f
  by_cases h : a ≥ b
  · rw [if_pos h]; simp [show b ≤ a from h]
  · rw [if_neg h]; simp [show ¬ b ≤ a from h]

theorem drop_r (l : List (List Int)) (i : Nat) (h : i < l.length) : l.drop i = l.getD i [] :: l.drop (i + 1) := by
  rw [List.drop_eq_getElem_cons h]
  simp [List.getD, List.getElem?_eq_getElem h]
theorem rdR (l : List (List Int)) (i : Nat) : rd_L1 l (i : Int) = l.getD i [] := by simp [rd_L1]
/-- The weight of a row of rows: each row and each number counts one. -/
def weigh (l : List (List Int)) : Nat := l.length + (l.map List.length).sum
theorem row_le {l : List (List Int)} {x : List Int} (h : x ∈ l) : x.length ≤ (l.map List.length).sum := by
  induction l with
  | nil => simp at h
  | cons a l ih =>
    rw [List.map_cons, List.sum_cons]
    rcases List.mem_cons.1 h with e | e
    · subst e
      omega
    · have := ih e
      omega
theorem getR_mem (l : List (List Int)) (i : Nat) (h : i < l.length) : l.getD i [] ∈ l := by
  have := List.getElem_mem h
  simpa [List.getD, List.getElem?_eq_getElem h] using this

theorem szint (l : List Int) (a : Int) (h0 : 0 ≤ a) (h1 : a ≤ 1048576) (hl : l.length ≤ maxLen) : laws_szIntS.f l a = some (if a < (l.length : Int) then -1 else a - (l.length : Int)) := by
  have hm : maxLen ≤ 9223372036854775807 := by decide
  unfold laws_szIntS.f
  rw [w64 (by omega) (by omega)]
  split <;> split <;> first | rfl | omega

theorem szss_l (l : List (List Int)) (hl : l.length ≤ 1048576) (hr : ∀ x ∈ l, x.length ≤ maxLen) : ∀ (d i : Nat) (m : Int), i + d = l.length → 0 ≤ m → m ≤ 1048576 → ∃ t, Ev (fun k => laws_szIntSS.l0 k l m (i : Int)) t ∧ (0 ≤ t → ((l.drop i).map List.length).sum ≤ m)
  | 0, i, m, h, h0, _ => ⟨m, ev_stop fun k => by rw [laws_szIntSS.l0, if_neg (by omega)], fun _ => by
    rw [List.drop_of_length_le (by omega)]
    simpa using h0⟩
  | d + 1, i, m, h, h0, hm => by
    have hx : (l.getD i []).length ≤ maxLen := hr _ (by
      have := List.getElem_mem (show i < l.length by omega)
      simpa [List.getD, List.getElem?_eq_getElem (show i < l.length by omega)] using this)
    have e := szint (l.getD i []) m h0 hm hx
    rw [drop_r l i (by omega), List.map_cons, List.sum_cons]
    by_cases hc : m < ((l.getD i []).length : Int)
    · rw [if_pos hc] at e
      exact ⟨-1, ev_stop fun k => by
        rw [laws_szIntSS.l0, if_pos (by omega), if_pos (by omega), rdR, e, Option.bind_some, if_pos (by omega)], by omega⟩
    · rw [if_neg hc] at e
      obtain ⟨t, ht, hb⟩ := szss_l l hl hr d (i + 1) (m - (l.getD i []).length) (by omega) (by omega) (by omega)
      exact ⟨t, ev_step ht fun k => by
        rw [laws_szIntSS.l0, if_pos (by omega), if_pos (by omega), rdR, e, Option.bind_some, if_neg (by omega), next i (by omega)], fun h => by
        have := hb h
        omega⟩
theorem szss (l : List (List Int)) (hl : l.length ≤ maxLen) (hr : ∀ x ∈ l, x.length ≤ maxLen) : ∃ t, Ev (fun k => laws_szIntSS.f k l 1048576) t ∧ (0 ≤ t → weigh l ≤ 1048576) := by
  have hm : maxLen ≤ 9223372036854775807 := by decide
  unfold laws_szIntSS.f
  rw [w64 (by omega) (by omega)]
  by_cases hc : 1048576 - (l.length : Int) < 0
  · exact ⟨-1, ev_ite_pos hc (ev_some fun _ => rfl), by omega⟩
  · obtain ⟨t, ht, hb⟩ := szss_l l (by omega) hr l.length 0 (1048576 - l.length) (by omega) (by omega) (by omega)
    refine ⟨t, ev_ite_neg hc ht, fun h => ?_⟩
    have := hb h
    rw [List.drop_zero] at this
    unfold weigh
    omega

theorem toints_l (l : List Int) (hl : l.length ≤ 4611686018427387904) : ∀ (d i : Nat) (m : List Int), m.length = l.length → i + d = l.length → m.take i = l.take i → Ev (fun k => laws_toIntS.l0 k l m (i : Int)) l
  | 0, i, m, hm, h, ht => ev_stop fun k => by
    rw [laws_toIntS.l0, if_neg (by omega)]
    rw [List.take_of_length_le (by omega), List.take_of_length_le (by omega)] at ht
    rw [ht]
  | d + 1, i, m, hm, h, ht => by
    have h1 : wrap64 ((i : Int) + 1) = ((i + 1 : Nat) : Int) := by rw [w64 (by omega) (by omega)]; omega
    refine ev_step (toints_l l hl d (i + 1) (m.set i (l.getD i 0)) (by simpa using hm) (by omega) ?_) fun k => by
      rw [laws_toIntS.l0, if_pos (by omega), if_pos (by omega), if_pos (by omega), h1, rdn, Int.toNat_natCast]
    rw [List.take_succ_eq_append_getElem (by simp; omega), List.take_succ_eq_append_getElem (by omega), List.take_set_of_le (Nat.le_refl i), ht]
    simp [List.getD, List.getElem?_eq_getElem (show i < l.length by omega)]
theorem toints_tells (l : List Int) (hl : l.length ≤ 35184372088832) : Ev (fun k => laws_toIntS.f k l) l := by
  refine Ev.congr (g := fun k => laws_toIntS.f k l) (fun k => ?_) (toints_l l (by omega) l.length 0 (List.replicate l.length 0) (by simp) (by omega) (by simp))
  unfold laws_toIntS.f
  rw [if_pos (by omega), if_pos (by omega), Int.toNat_natCast]
  rfl

theorem toss_l (l : List (List Int)) (hl : weigh l ≤ 1048576) : ∀ (d i : Nat) (m : List (List Int)), m.length = l.length → i + d = l.length → m.take i = l.take i → Ev (fun k => laws_toIntSS.l0 k l m (i : Int)) l
  | 0, i, m, hm, h, ht => ev_stop fun k => by
    rw [laws_toIntSS.l0, if_neg (by omega)]
    rw [List.take_of_length_le (by omega), List.take_of_length_le (by omega)] at ht
    rw [ht]
  | d + 1, i, m, hm, h, ht => by
    have hw := row_le (getR_mem l i (by omega))
    unfold weigh at hl
    refine Ev.step (f := fun k => (laws_toIntS.f k (l.getD i [])).bind fun t => laws_toIntSS.l0 k l (m.set i t) ((i + 1 : Nat) : Int)) (fun k => ?_) (ev_bind (toints_tells (l.getD i []) (by omega)) (toss_l l hl d (i + 1) (m.set i (l.getD i [])) (by simpa using hm) (by omega) ?_))
    · rw [laws_toIntSS.l0, if_pos (by omega), if_pos (by omega), rdR]
      refine congrArg (Option.bind _) (funext fun t => ?_)
      rw [if_pos (by omega), next i (by omega), Int.toNat_natCast]
    · rw [List.take_succ_eq_append_getElem (by simp; omega), List.take_succ_eq_append_getElem (by omega), List.take_set_of_le (Nat.le_refl i), ht]
      simp [List.getD, List.getElem?_eq_getElem (show i < l.length by omega)]
theorem toss_tells (l : List (List Int)) (hl : weigh l ≤ 1048576) : Ev (fun k => laws_toIntSS.f k l) l := by
  have hl' : l.length ≤ 1048576 := by unfold weigh at hl; omega
  refine Ev.congr (g := fun k => laws_toIntSS.f k l) (fun k => ?_) (toss_l l hl l.length 0 (List.replicate l.length []) (by simp) (by omega) (by simp))
  unfold laws_toIntSS.f
  rw [if_pos (by omega), if_pos (by omega), Int.toNat_natCast]
  rfl

theorem eqints_l (l : List Int) (hl : l.length ≤ 4611686018427387904) : ∀ (d i : Nat), i + d = l.length → Ev (fun k => laws_eqIntS.l0 k l l (i : Int)) true
  | 0, i, h => ev_stop fun k => by
    rw [laws_eqIntS.l0, if_neg (by omega)]
  | d + 1, i, h => by
    have h1 : wrap64 ((i : Int) + 1) = ((i + 1 : Nat) : Int) := by rw [w64 (by omega) (by omega)]; omega
    refine ev_step (eqints_l l hl d (i + 1) (by omega)) fun k => by
      rw [laws_eqIntS.l0, if_pos (by omega), if_pos (by omega), if_pos (by omega), if_pos rfl, h1]
theorem eqints_tells (l : List Int) (hl : l.length ≤ 4611686018427387904) : Ev (fun k => laws_eqIntS.f k l l) true := by
  refine Ev.congr (g := fun k => laws_eqIntS.f k l l) (fun k => ?_) (eqints_l l hl l.length 0 (by omega))
  unfold laws_eqIntS.f
  rw [if_pos rfl]
  rfl

theorem eqss_l (l : List (List Int)) (hl : l.length ≤ 4611686018427387903) (hr : ∀ x ∈ l, x.length ≤ 4611686018427387903) : ∀ (d i : Nat), i + d = l.length → Ev (fun k => laws_eqIntSS.l0 k l l (i : Int)) true
  | 0, i, h => ev_stop fun k => by
    rw [laws_eqIntSS.l0, if_neg (by omega)]
  | d + 1, i, h => by
    have hw := hr _ (getR_mem l i (by omega))
    refine Ev.step (f := fun k => (laws_eqIntS.f k (l.getD i []) (l.getD i [])).bind fun t => if t = true then laws_eqIntSS.l0 k l l ((i + 1 : Nat) : Int) else some false) (fun k => ?_) (ev_bind (eqints_tells _ (by omega)) (ev_ite_pos rfl (eqss_l l hl hr d (i + 1) (by omega))))
    rw [laws_eqIntSS.l0, if_pos (by omega), if_pos (by omega), if_pos (by omega), rdR, next i (by omega)]
theorem eqss_tells (l : List (List Int)) (hl : l.length ≤ 4611686018427387903) (hr : ∀ x ∈ l, x.length ≤ 4611686018427387903) : Ev (fun k => laws_eqIntSS.f k l l) true := by
  refine Ev.congr (g := fun k => laws_eqIntSS.f k l l) (fun k => ?_) (eqss_l l hl hr l.length 0 (by omega))
  unfold laws_eqIntSS.f
  rw [if_pos rfl]
  rfl
theorem eqss_weigh (l : List (List Int)) (hl : weigh l ≤ 1048576) : Ev (fun k => laws_eqIntSS.f k l l) true := by
  unfold weigh at hl
  exact eqss_tells l (by omega) fun x hx => by have := row_le hx; omega



theorem weigh_rows {l : List (List Int)} (hw : weigh l ≤ 1048576) : ∀ x ∈ l, x.length ≤ 1048576 := fun x hx => by
  have := row_le hx
  unfold weigh at hw
  omega
theorem weigh_len {l : List (List Int)} (hw : weigh l ≤ 1048576) : l.length ≤ 1048576 := by
  unfold weigh at hw
  omega

/-- The rising numbers from m on. -/
def upFrom (m : Int) : Nat → List Int
  | 0 => []
  | n + 1 => m :: upFrom (m + 1) n
theorem upFrom_len (m : Int) : ∀ n, (upFrom m n).length = n
  | 0 => rfl
  | n + 1 => by rw [upFrom, List.length_cons, upFrom_len (m + 1) n]
theorem take_set_succ (l : List Int) (i : Nat) (m : Int) (h : i < l.length) : (l.set i m).take (i + 1) = l.take i ++ [m] := by
  rw [List.take_succ_eq_append_getElem (by simpa using h), List.take_set_of_le (Nat.le_refl i)]
  simp
theorem markInt_l : ∀ (d i : Nat) (l : List Int) (m : Int), i + d = l.length → 0 ≤ m → m + d ≤ 4611686018427387903 → l.length ≤ 4611686018427387903 → Ev (fun k => laws_markIntS.l0 k l m (i : Int)) (m + d, l.take i ++ upFrom m d)
  | 0, i, l, m, h, _, _, _ => ev_stop fun k => by
    rw [laws_markIntS.l0, if_neg (by omega), List.take_of_length_le (by omega)]
    simp [upFrom]
  | d + 1, i, l, m, h, hm, hb, hl => by
    have ih := markInt_l d (i + 1) (l.set i m) (m + 1) (by simpa using by omega) (by omega) (by omega) (by simpa using hl)
    rw [take_set_succ l i m (by omega), List.append_assoc] at ih
    have e : m + 1 + (d : Int) = m + ((d + 1 : Nat) : Int) := by omega
    rw [e] at ih
    exact ev_step ih fun k => by rw [laws_markIntS.l0, if_pos (by omega), if_pos (by omega), w64 (by omega) (by omega), next i (by omega), Int.toNat_natCast]
theorem markInt_tells (l : List Int) (m : Int) (hm : 0 ≤ m) (hb : m + l.length ≤ 4611686018427387903) : Ev (fun k => laws_markIntS.f k l m) (m + l.length, upFrom m l.length) := by
  have h := markInt_l l.length 0 l m (by omega) hm hb (by omega)
  rw [List.take_zero, List.nil_append] at h
  exact h

theorem heldInt_l (l : List Int) (hl : l.length ≤ 4611686018427387903) : ∀ (d i : Nat) (m : Int), i + d = l.length → l.drop i = upFrom m d → 0 ≤ m → m + d ≤ 4611686018427387903 → Ev (fun k => laws_heldIntS.l0 k l m (i : Int)) (m + d)
  | 0, i, m, h, _, _, _ => ev_stop fun k => by
    rw [laws_heldIntS.l0, if_neg (by omega)]
    simp
  | d + 1, i, m, h, he, hm, hb => by
    rw [drop_at l i (by omega), upFrom] at he
    injection he with e1 e2
    have ih := heldInt_l l hl d (i + 1) (m + 1) (by omega) e2 (by omega) (by omega)
    have e : m + 1 + (d : Int) = m + ((d + 1 : Nat) : Int) := by omega
    rw [e] at ih
    exact ev_step ih fun k => by rw [laws_heldIntS.l0, if_pos (by omega), if_pos (by omega), rdn, if_pos e1, w64 (by omega) (by omega), next i (by omega)]
theorem heldInt_tells (m : Int) (n : Nat) (hm : 0 ≤ m) (hb : m + n ≤ 4611686018427387903) : Ev (fun k => laws_heldIntS.f k (upFrom m n) m) (m + n) := by
  have h := heldInt_l (upFrom m n) (by rw [upFrom_len]; omega) n 0 m (by rw [upFrom_len]; omega) (by simp) hm hb
  exact h

/-- A row of rows of the rising numbers from m on, of the same lengths. -/
def upRows (m : Int) : List (List Int) → List (List Int)
  | [] => []
  | r :: l => upFrom m r.length :: upRows (m + r.length) l
theorem upRows_len (m : Int) : ∀ l, (upRows m l).length = l.length
  | [] => rfl
  | r :: l => by rw [upRows, List.length_cons, upRows_len (m + r.length) l, List.length_cons]
theorem take_set_row (l : List (List Int)) (i : Nat) (m : List Int) (h : i < l.length) : (l.set i m).take (i + 1) = l.take i ++ [m] := by
  rw [List.take_succ_eq_append_getElem (by simpa using h), List.take_set_of_le (Nat.le_refl i)]
  simp
theorem markss_l : ∀ (d i : Nat) (l : List (List Int)) (m : Int), i + d = l.length → l.length ≤ 4611686018427387903 → 0 ≤ m → m + ((l.drop i).map List.length).sum ≤ 1000000000 → Ev (fun k => laws_markIntSS.l0 k l m (i : Int)) (m + ((l.drop i).map List.length).sum, l.take i ++ upRows m (l.drop i))
  | 0, i, l, m, h, _, _, _ => ev_stop fun k => by
    rw [laws_markIntSS.l0, if_neg (by omega), List.drop_of_length_le (by omega), List.take_of_length_le (by omega)]
    simp [upRows]
  | d + 1, i, l, m, h, hl, hm, hb => by
    rw [drop_r l i (by omega), List.map_cons, List.sum_cons] at hb
    rw [drop_r l i (by omega), List.map_cons, List.sum_cons, upRows]
    have hset : (l.set i (upFrom m (l.getD i []).length)).drop (i + 1) = l.drop (i + 1) := List.drop_set_of_lt (by omega)
    have ih := markss_l d (i + 1) (l.set i (upFrom m (l.getD i []).length)) (m + (l.getD i []).length) (by rw [List.length_set]; omega) (by rw [List.length_set]; omega) (by omega) (by rw [hset]; omega)
    rw [hset, take_set_row l i _ (by omega), List.append_assoc] at ih
    refine Ev.step (f := fun k => (laws_markIntS.f k (l.getD i []) m).bind fun bt => laws_markIntSS.l0 k (l.set i bt.2) bt.1 ((i + 1 : Nat) : Int)) (fun k => ?_) (ev_bind (markInt_tells (l.getD i []) m hm (by omega)) ?_)
    · rw [laws_markIntSS.l0, if_pos (by omega), if_pos (by omega), Int.toNat_natCast, next i (by omega)]
    · have e : m + ((l.getD i []).length : Int) + (((l.drop (i + 1)).map List.length).sum : Int) = m + (((l.getD i []).length + ((l.drop (i + 1)).map List.length).sum : Nat) : Int) := by omega
      rw [e] at ih
      exact ih
theorem markss_tells (l : List (List Int)) (m : Int) (hl : weigh l ≤ 1048576) (hm : 0 ≤ m) (hb : m ≤ 900000000) : Ev (fun k => laws_markIntSS.f k l m) (m + ((l.map List.length).sum : Nat), upRows m l) := by
  unfold weigh at hl
  have h := markss_l l.length 0 l m (by omega) (by omega) hm (by rw [List.drop_zero]; omega)
  rw [List.drop_zero, List.take_zero, List.nil_append] at h
  exact h

theorem heldss_l : ∀ (d i : Nat) (l : List (List Int)) (z : List (List Int)) (m : Int), i + d = z.length → z.length ≤ 4611686018427387903 → z.drop i = upRows m l → 0 ≤ m → m + (l.map List.length).sum ≤ 1000000000 → Ev (fun k => laws_heldIntSS.l0 k z m (i : Int)) (m + ((l.map List.length).sum : Nat))
  | 0, i, l, z, m, h, hz, he, hm, hb => ev_stop fun k => by
    rw [laws_heldIntSS.l0, if_neg (by omega)]
    rw [List.drop_of_length_le (by omega)] at he
    cases l with
    | nil => simp
    | cons r l => simp [upRows] at he
  | d + 1, i, l, z, m, h, hz, he, hm, hb => by
    rw [drop_r z i (by omega)] at he
    cases l with
    | nil => simp [upRows] at he
    | cons r l =>
      rw [upRows] at he
      injection he with e1 e2
      rw [List.map_cons, List.sum_cons] at hb ⊢
      have ih := heldss_l d (i + 1) l z (m + r.length) (by omega) hz e2 (by omega) (by omega)
      refine Ev.step (f := fun k => (laws_heldIntS.f k (z.getD i []) m).bind fun t => if t < 0 then some (-1) else laws_heldIntSS.l0 k z t ((i + 1 : Nat) : Int)) (fun k => ?_) ?_
      · rw [laws_heldIntSS.l0, if_pos (by omega), if_pos (by omega), rdR, next i (by omega)]
      · rw [e1]
        refine ev_bind (heldInt_tells m r.length hm (by omega)) (ev_ite_neg (by omega) ?_)
        have e : m + (r.length : Int) + ((l.map List.length).sum : Nat) = m + ((r.length + (l.map List.length).sum : Nat) : Int) := by omega
        rw [e] at ih
        exact ih
theorem heldss_tells (l : List (List Int)) (m : Int) (hl : weigh l ≤ 1048576) (hm : 0 ≤ m) (hb : m ≤ 900000000) : Ev (fun k => laws_heldIntSS.f k (upRows m l) m) (m + ((l.map List.length).sum : Nat)) := by
  unfold weigh at hl
  exact heldss_l (upRows m l).length 0 l (upRows m l) m (by omega) (by rw [upRows_len]; omega) (by simp) hm (by omega)

theorem sum_flat : ∀ l : List (List Int), (l.map List.length).sum = l.flatten.length
  | [] => rfl
  | a :: l => by rw [List.map_cons, List.sum_cons, sum_flat l, List.flatten_cons, List.length_append]
theorem leads_any (l : List (List Int)) (h : List Int) (x : Int) : h_leads l h x = (l.getD x.toNat []).any fun y => h.contains y := by
  unfold h_leads
  rw [Bool.eq_iff_iff, decide_eq_true_eq, List.any_eq_true, List.length_pos_iff_exists_mem]
  exact ⟨fun ⟨a, ha⟩ => ⟨a, (List.mem_filter.1 ha).1, (List.mem_filter.1 ha).2⟩, fun ⟨a, h1, h2⟩ => ⟨a, List.mem_filter.2 ⟨h1, h2⟩⟩⟩
theorem ins_last {x : Int} : ∀ {L : List Int}, (∀ a ∈ L, a < x) → ins x L = L ++ [x]
  | [], _ => rfl
  | a :: L, h => by
    rw [ins, if_pos (h a (by simp)), ins_last fun b hb => h b (List.mem_cons_of_mem _ hb)]
    rfl
theorem ins_again {x : Int} : ∀ {L : List Int}, (∀ a ∈ L, a < x) → ins x (L ++ [x]) = L ++ [x]
  | [], _ => by simp [ins]
  | a :: L, h => by
    rw [List.cons_append, ins, if_pos (h a (by simp)), ins_again fun b hb => h b (List.mem_cons_of_mem _ hb)]
def toB (L : List Int) (j : Int) (b : Bool) : List Int := if b = true then L ++ [j] else L
theorem toB_ins {L : List Int} {j : Int} (h : ∀ a ∈ L, a < j) (b : Bool) : ins j (toB L j b) = toB L j true := by
  cases b with
  | true => exact ins_again h
  | false => exact ins_last h
theorem toB_len (L : List Int) (j : Int) (b : Bool) : (toB L j b).length ≤ L.length + 1 := by
  unfold toB
  split <;> simp
theorem shr_l3 {l R out : List (List Int)} {i j : Nat} {g L h : List Int} {m : Int} {r : List (List Int) × Bool} (hh : h.length ≤ 1000) (hL : L.length ≤ 1000) (hlt : ∀ a ∈ L, a < (j : Int)) (ys : List Int) (hy : ys.length ≤ 1000) :
    ∀ (d q : Nat) (b : Bool), q + d = ys.length → Ev (fun k => spec_Shrink.l2 k l R out (i : Int) g (toB L (j : Int) (b || (((i : Int) != (j : Int)) && (ys.drop q).any fun y => h.contains y))) (j : Int) h R (R.length : Int) (i : Int) R (R.length : Int) (j : Int) g (g.length : Int) (wrap64 (m + 1))) r →
      Ev (fun k => spec_Shrink.l3 k l R out (i : Int) g (toB L (j : Int) b) (j : Int) h R (R.length : Int) (i : Int) R (R.length : Int) (j : Int) g (g.length : Int) m ys (ys.length : Int) (q : Int)) r
  | 0, q, b, hq, hr => by
    rw [List.drop_of_length_le (by omega), List.any_nil, Bool.and_false, Bool.or_false] at hr
    exact ev_step hr fun k => by rw [spec_Shrink.l3, if_neg (by omega)]
  | d + 1, q, b, hq, hr => by
    rw [drop_at ys q (by omega), List.any_cons] at hr
    have htl := toB_len L (j : Int) b
    by_cases hij : (j : Int) = (i : Int)
    · have e : ((i : Int) != (j : Int)) = false := by simp [hij]
      have ih := shr_l3 (m := m) (r := r) (g := g) (out := out) (l := l) (R := R) (i := i) (j := j) hh hL hlt ys hy d (q + 1) b (by omega) (by rw [e] at hr ⊢; simpa using hr)
      exact ev_step ih fun k => by rw [spec_Shrink.l3, if_pos (by omega), if_pos (by omega), if_pos (by omega), if_pos hij, next q (by omega)]
    · have e : ((i : Int) != (j : Int)) = true := by simp; omega
      rw [e, Bool.true_and] at hr
      refine Ev.step (f := fun k => (spec_l1Has.f k h (ys.getD q 0)).bind fun t => if t = true then (spec_l1Put.f k (toB L (j : Int) b) (j : Int)).bind fun t220 => spec_Shrink.l3 k l R out (i : Int) g t220 (j : Int) h R (R.length : Int) (i : Int) R (R.length : Int) (j : Int) g (g.length : Int) m ys (ys.length : Int) ((q + 1 : Nat) : Int) else spec_Shrink.l3 k l R out (i : Int) g (toB L (j : Int) b) (j : Int) h R (R.length : Int) (i : Int) R (R.length : Int) (j : Int) g (g.length : Int) m ys (ys.length : Int) ((q + 1 : Nat) : Int)) (fun k => by
        rw [spec_Shrink.l3, if_pos (by omega), if_pos (by omega), if_pos (by omega), if_neg hij, rdn, next q (by omega)]) (ev_bind (has_tells h (ys.getD q 0) (by omega)) ?_)
      by_cases hm : ys.getD q 0 ∈ h
      · rw [decide_eq_true hm]
        have hc : h.contains (ys.getD q 0) = true := by simpa using hm
        rw [hc, Bool.true_or, Bool.or_true] at hr
        have hp := put_tells (toB L (j : Int) b) (j : Int) (by omega)
        rw [toB_ins hlt b] at hp
        exact ev_ite_pos rfl (ev_bind hp (shr_l3 hh hL hlt ys hy d (q + 1) true (by omega) (by rw [Bool.true_or]; exact hr)))
      · rw [decide_eq_false hm]
        have hc : h.contains (ys.getD q 0) = false := by simpa using hm
        rw [hc, Bool.false_or] at hr
        exact ev_ite_neg (by simp) (shr_l3 hh hL hlt ys hy d (q + 1) b (by omega) (by rw [e, Bool.true_and]; exact hr))
theorem shr_l2 {l R out : List (List Int)} (H : Links l) {i j : Nat} {g L h : List Int} {r : List (List Int) × Bool} (hh : h.length ≤ 1000) (hL : L.length ≤ 1000) (hlt : ∀ a ∈ L, a < (j : Int)) (hg : g.length ≤ 1000) (hgx : ∀ x ∈ g, 0 ≤ x ∧ x < (l.length : Int)) :
    ∀ (d m : Nat) (b : Bool), m + d = g.length → Ev (fun k => spec_Shrink.l1 k l R out (i : Int) g (toB L (j : Int) (b || (((i : Int) != (j : Int)) && (g.drop m).any (h_leads l h)))) R (R.length : Int) (i : Int) R (R.length : Int) (wrap64 ((j : Int) + 1))) r →
      Ev (fun k => spec_Shrink.l2 k l R out (i : Int) g (toB L (j : Int) b) (j : Int) h R (R.length : Int) (i : Int) R (R.length : Int) (j : Int) g (g.length : Int) (m : Int)) r
  | 0, m, b, hm, hr => by
    rw [List.drop_of_length_le (by omega), List.any_nil, Bool.and_false, Bool.or_false] at hr
    exact ev_step hr fun k => by rw [spec_Shrink.l2, if_neg (by omega)]
  | d + 1, m, b, hm, hr => by
    rw [drop_at g m (by omega), List.any_cons] at hr
    have hx : g.getD m 0 ∈ g := by
      have := List.getElem_mem (show m < g.length by omega)
      simpa [List.getD, List.getElem?_eq_getElem (show m < g.length by omega)] using this
    obtain ⟨x0, x1⟩ := hgx _ hx
    have hrl := H.rowlen _ x0 x1
    have ih := shr_l2 (r := r) (out := out) (R := R) (i := i) (j := j) H hh hL hlt hg hgx d (m + 1) (b || (((i : Int) != (j : Int)) && h_leads l h (g.getD m 0))) (by omega) (by
      rw [show ((b || (((i : Int) != (j : Int)) && h_leads l h (g.getD m 0))) || (((i : Int) != (j : Int)) && (g.drop (m + 1)).any (h_leads l h))) = (b || (((i : Int) != (j : Int)) && (h_leads l h (g.getD m 0) || (g.drop (m + 1)).any (h_leads l h)))) by cases b <;> cases ((i : Int) != (j : Int)) <;> cases h_leads l h (g.getD m 0) <;> simp]
      exact hr)
    rw [leads_any] at ih
    have h3 := shr_l3 (l := l) (R := R) (out := out) (i := i) (j := j) (g := g) (L := L) (h := h) (m := (m : Int)) (r := r) hh hL hlt (rowAt l (g.getD m 0)) (by omega) (rowAt l (g.getD m 0)).length 0 b (by omega) (by rw [List.drop_zero, next m (by omega)]; exact ih)
    refine Ev.step (fun k => ?_) h3
    rw [spec_Shrink.l2, if_pos (by omega), if_pos (by omega), if_pos (by omega), rdn, if_pos x0, if_pos x1]
    rfl
theorem row_bd (l R : List (List Int)) (i : Nat) (g : List Int) : ∀ (d j : Nat) (acc : List Int), (impl_Shrink.row l R i g d j acc).length ≤ acc.length + d
  | 0, j, acc => by simp [impl_Shrink.row]
  | d + 1, j, acc => by
    rw [impl_Shrink.row]
    split
    · split
      · have := row_bd l R i g d (j + 1) (acc ++ [(j : Int)])
        rw [List.length_append, List.length_singleton] at this
        omega
      · have := row_bd l R i g d (j + 1) acc
        omega
    · have := row_bd l R i g d (j + 1) acc
      omega
theorem shr_l1 {l R out : List (List Int)} (H : Links l) {i : Nat} {g : List Int} {r : List (List Int) × Bool} (hR : R.length ≤ 12) (hRx : ∀ h ∈ R, h.length ≤ 12) (hg : g.length ≤ 1000) (hgx : ∀ x ∈ g, 0 ≤ x ∧ x < (l.length : Int)) (ho : out.length ≤ 1000) :
    ∀ (d j : Nat) (L : List Int), j + d = R.length → L.length ≤ j → (∀ a ∈ L, a < (j : Int)) → Ev (fun k => spec_Shrink.l0 k l R (out ++ [impl_Shrink.row l R i g d j L]) R (R.length : Int) (wrap64 ((i : Int) + 1))) r →
      Ev (fun k => spec_Shrink.l1 k l R out (i : Int) g L R (R.length : Int) (i : Int) R (R.length : Int) (j : Int)) r
  | 0, j, L, hj, hl, hlt, hr => by
    rw [impl_Shrink.row] at hr
    exact ev_step hr fun k => by rw [spec_Shrink.l1, if_neg (by omega), if_pos (by omega)]
  | d + 1, j, L, hj, hl, hlt, hr => by
    rw [impl_Shrink.row] at hr
    have hm := getR_mem R j (by omega)
    have hh := hRx _ hm
    generalize hGh : R.getD j [] = h at hr hm hh
    have hlt2 : ∀ b, ∀ a ∈ toB L (j : Int) b, a < ((j + 1 : Nat) : Int) := fun b a ha => by
      unfold toB at ha
      split at ha
      · rcases List.mem_append.1 ha with e | e
        · have := hlt a e
          omega
        · have := List.mem_singleton.1 e
          omega
      · have := hlt a ha
        omega
    have htl := toB_len L (j : Int) (((i : Int) != (j : Int)) && g.any (h_leads l h))
    have e : (if ((i : Int) != (j : Int)) = true then (if g.any (h_leads l h) = true then L ++ [(j : Int)] else L) else L) = toB L (j : Int) (((i : Int) != (j : Int)) && g.any (h_leads l h)) := by
      unfold toB
      cases ((i : Int) != (j : Int)) <;> cases g.any (h_leads l h) <;> rfl
    rw [e] at hr
    have ih := shr_l1 (r := r) H hR hRx hg hgx ho d (j + 1) _ (by omega) (by omega) (hlt2 _) hr
    have h2 := shr_l2 (l := l) (R := R) (out := out) (i := i) (j := j) (g := g) (L := L) (h := h) (r := r) H (by omega) (by omega) hlt hg hgx g.length 0 false (by omega) (by rw [List.drop_zero, Bool.false_or, next j (by omega)]; exact ih)
    refine Ev.step (fun k => ?_) h2
    rw [spec_Shrink.l1, if_pos (by omega), if_pos (by omega), if_pos (by omega), rdR, hGh]
    rfl
theorem shr_l0 {l R : List (List Int)} (H : Links l) (hR : R.length ≤ 12) (hRx : ∀ h ∈ R, h.length ≤ 12) (hgx : ∀ g ∈ R, ∀ x ∈ g, 0 ≤ x ∧ x < (l.length : Int)) :
    ∀ (d i : Nat) (out : List (List Int)), i + d = R.length → out.length ≤ i → Ev (fun k => spec_Shrink.l0 k l R out R (R.length : Int) (i : Int)) (impl_Shrink.out l R d i out, true)
  | 0, i, out, hi, ho => ev_stop fun k => by rw [spec_Shrink.l0, if_neg (by omega), impl_Shrink.out]
  | d + 1, i, out, hi, ho => by
    have hm := getR_mem R i (by omega)
    have ih := shr_l0 H hR hRx hgx d (i + 1) (out ++ [impl_Shrink.row l R i (R.getD i []) R.length 0 []]) (by omega) (by rw [List.length_append, List.length_singleton]; omega)
    have hgl := hRx _ hm
    have h1 := shr_l1 (l := l) (R := R) (out := out) (i := i) (g := R.getD i []) H hR hRx (by omega) (hgx _ hm) (by omega) R.length 0 [] (by omega) (by simp) (by simp) (by rw [next i (by omega)]; exact ih)
    rw [impl_Shrink.out]
    refine Ev.step (fun k => ?_) h1
    rw [spec_Shrink.l0, if_pos (by omega), if_pos (by omega), if_pos (by omega), rdR]
    rfl
theorem out_bd (l R : List (List Int)) (hR : R.length ≤ 12) : ∀ (d i : Nat) (acc : List (List Int)), (∀ x ∈ acc, x.length ≤ 12) → (impl_Shrink.out l R d i acc).length = acc.length + d ∧ ∀ x ∈ impl_Shrink.out l R d i acc, x.length ≤ 12
  | 0, i, acc, h => ⟨by simp [impl_Shrink.out], by simpa [impl_Shrink.out] using h⟩
  | d + 1, i, acc, h => by
    rw [impl_Shrink.out]
    have hb := row_bd l R i (R.getD i []) R.length 0 []
    obtain ⟨a, b⟩ := out_bd l R hR d (i + 1) (acc ++ [impl_Shrink.row l R i (R.getD i []) R.length 0 []]) fun x hx => by
      rcases List.mem_append.1 hx with e | e
      · exact h x e
      · rw [List.mem_singleton.1 e]
        rw [List.length_nil] at hb
        omega
    rw [List.length_append, List.length_singleton] at a
    exact ⟨by omega, b⟩
theorem rows_12 : ∀ (l : List (List Int)), (∀ r ∈ l, r.length ≤ 12) → (l.map List.length).sum ≤ l.length * 12
  | [], _ => by simp
  | r :: l, h => by
    have h1 := h r (by simp)
    have h2 := rows_12 l fun x hx => h x (List.mem_cons_of_mem _ hx)
    rw [List.map_cons, List.sum_cons, List.length_cons]
    omega
theorem shrink_same (l : List (List Int)) (hl : l.length ≤ 1048576) (hr : ∀ x ∈ l, x.length ≤ 1048576) : ∃ x : List (List Int) × Bool, Ev (fun k => spec_Shrink.f k l) x ∧ Ev (fun k => impl_Shrink.f k l) x ∧ weigh x.1 ≤ 1048576 := by
  unfold spec_Shrink.f impl_Shrink.f
  cases hL : linksB l with
  | false => exact ⟨([], false), ev_bind (slinks_tells l hl hr) (ev_ite_neg (by simp [hL]) (ev_some fun _ => rfl)), ev_some_bind (links_tells l hr) (ev_ite_neg (by simp [hL]) (ev_some fun _ => rfl)), by simp [weigh]⟩
  | true =>
    have H := links_of hL
    obtain ⟨R, r1, r2, r3, r4, _, r6⟩ := groups_tells H
    have hRx : ∀ h ∈ R, h.length ≤ 12 := fun h hh => by
      have := (List.sublist_flatten_of_mem hh).length_le
      omega
    have hgx : ∀ g ∈ R, ∀ x ∈ g, 0 ≤ x ∧ x < (l.length : Int) := fun g hg x hx => r6 x (List.mem_flatten.2 ⟨g, hg, hx⟩)
    have h0 := shr_l0 H r3 hRx hgx R.length 0 [] (by omega) (by simp)
    obtain ⟨b1, b2⟩ := out_bd l R r3 R.length 0 [] (by simp)
    have b3 := rows_12 _ b2
    refine ⟨(impl_Shrink.out l R R.length 0 [], true), ev_bind (slinks_tells l hl hr) (ev_ite_pos hL (ev_bind r1 h0)), ev_some_bind (links_tells l hr) (ev_ite_pos hL (ev_bind r2 (ev_ite_pos ⟨r3, fun g hg x hx => ?_⟩ (ev_some fun _ => rfl)))), ?_⟩
    · obtain ⟨x0, x1⟩ := hgx g hg x hx
      have := H.rowlen x x0 x1
      unfold rowAt at this
      exact ⟨x0, x1, by omega⟩
    · unfold weigh
      rw [List.length_nil] at b1
      simp only
      omega
theorem FnExactShrink : laws_FnExactShrink.Good := by
  intro l0 ⟨hm, hrows⟩
  unfold laws_FnExactShrink.Pass
  obtain ⟨t, ht, hb⟩ := szss l0 hm fun x hx => (hrows x hx).1
  by_cases hg : t < 0
  · exact ((Evs.ev ht).mono fun k h => ⟨t, h, .inl hg⟩).now
  have hw := hb (by omega)
  obtain ⟨⟨x, b⟩, hs, hi, hx⟩ := shrink_same l0 (weigh_len hw) (weigh_rows hw)
  simp only at hx
  have m0 := markss_tells l0 1 hw (by omega) (by omega)
  have m1 := markss_tells x 1 hx (by omega) (by omega)
  have h1 := heldss_tells x 1 hx (by omega) (by omega)
  exact (((Evs.ev ht).and ((Evs.ev (toss_tells l0 hw)).and ((Evs.ev hs).and ((Evs.ev hi).and ((Evs.ev (eqss_weigh x hx)).and ((Evs.ev (eqss_weigh l0 hw)).and ((Evs.ev m0).and ((Evs.ev m1).and (Evs.ev h1))))))))).mono fun k ⟨d0, d1, d2, d3, d4, d5, d6, d7, d8⟩ => ⟨t, d0, .inr ⟨hg, l0, x, b, _, _, _, _, d1, d2, d3, d4, d5, d6, d7, d8, by omega, by omega⟩⟩).now

end Go.Proofs.Yteokbemieooeaaa.Pure
