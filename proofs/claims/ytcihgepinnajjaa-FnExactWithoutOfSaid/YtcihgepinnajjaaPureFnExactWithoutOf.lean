/- The law FnExactWithoutOf: the program's function tells what the reference tells, for all arguments; here: of the two as plain functions of numbers and lists. -/
import Derived.Test.YtcihgepinnajjaaQFnExactWithoutOf
namespace Go.Proofs.Ytcihgepinnajjaa.Pure
open Go.RowKit Go.Proofs.Ytcihgepinnajjaa.PFnExactWithoutOf Go.Proofs.YtcihgepinnajjaaW.PrintWords Go.Proofs.YtcihgepinnajjaaW.PrintLast Go.Proofs.YtcihgepinnajjaaW.PrintMore
set_option linter.unusedVariables false
set_option linter.unusedSimpArgs false
set_option linter.unnecessarySimpa false

/-- A tuple put to its place, once. -/
def addT : List (List Int) → List Int → List (List Int)
  | [], t => [t]
  | x :: l, t => if cmpL x t < 0 then x :: addT l t else if x = t then x :: l else t :: x :: l
abbrev LtT (x y : List Int) : Prop := cmpL x y < 0
theorem addT_mem : ∀ (l : List (List Int)) (t y : List Int), y ∈ addT l t ↔ y = t ∨ y ∈ l
  | [], t, y => by rw [addT, List.mem_singleton]; simp
  | x :: l, t, y => by
    rw [addT]
    by_cases h : cmpL x t < 0
    · rw [if_pos h, List.mem_cons, addT_mem l t y, List.mem_cons]
      constructor
      · rintro (h | h | h)
        · exact .inr (.inl h)
        · exact .inl h
        · exact .inr (.inr h)
      · rintro (h | h | h)
        · exact .inr (.inl h)
        · exact .inl h
        · exact .inr (.inr h)
    · rw [if_neg h]
      by_cases h2 : x = t
      · rw [if_pos h2]
        constructor
        · exact .inr
        · rintro (h | h)
          · rw [h, ← h2]; exact List.mem_cons_self ..
          · exact h
      · rw [if_neg h2, List.mem_cons]
theorem addT_rise : ∀ {l : List (List Int)} (t : List Int), l.Pairwise LtT → (addT l t).Pairwise LtT
  | [], t, _ => by rw [addT]; exact List.pairwise_singleton _ _
  | x :: l, t, h => by
    obtain ⟨h1, h2⟩ := List.pairwise_cons.1 h
    rw [addT]
    by_cases hc : cmpL x t < 0
    · rw [if_pos hc]
      refine List.pairwise_cons.2 ⟨fun y hy => ?_, addT_rise t h2⟩
      rcases (addT_mem l t y).1 hy with e | hy
      · rw [e]; exact hc
      · exact h1 y hy
    · rw [if_neg hc]
      by_cases he : x = t
      · rw [if_pos he]; exact h
      · rw [if_neg he]
        have hs := cmpL_swap x t
        have hn : cmpL x t ≠ 0 := fun e => he (cmpL_eq e)
        refine List.pairwise_cons.2 ⟨fun y hy => ?_, h⟩
        have hx : cmpL t x < 0 := by omega
        rcases List.mem_cons.1 hy with e | hy
        · rw [e]; exact hx
        · exact cmpL_trans hx (h1 y hy)
theorem foldT_mem : ∀ (l acc : List (List Int)) (y : List Int), y ∈ l.foldl addT acc ↔ y ∈ l ∨ y ∈ acc
  | [], acc, y => by simp
  | t :: l, acc, y => by
    rw [List.foldl_cons, foldT_mem l, addT_mem, List.mem_cons]
    constructor
    · rintro (h | h | h)
      · exact .inl (.inr h)
      · exact .inl (.inl h)
      · exact .inr h
    · rintro ((h | h) | h)
      · exact .inr (.inl h)
      · exact .inl h
      · exact .inr (.inr h)
theorem foldT_rise : ∀ (l : List (List Int)) {acc : List (List Int)}, acc.Pairwise LtT → (l.foldl addT acc).Pairwise LtT
  | [], _, h => h
  | t :: l, _, h => by rw [List.foldl_cons]; exact foldT_rise l (addT_rise t h)
theorem foldT_len : ∀ (l acc : List (List Int)), (l.foldl addT acc).length ≤ l.length + acc.length
  | [], acc => by simp
  | t :: l, acc => by
    have h : ∀ l : List (List Int), (addT l t).length ≤ l.length + 1 := fun l => by
      induction l with
      | nil => simp [addT]
      | cons x l ih =>
        rw [addT]
        split
        · simp; omega
        · split <;> simp
    rw [List.foldl_cons, List.length_cons]
    have := foldT_len l (addT acc t)
    have := h acc
    omega
theorem keepK_strict : ∀ (r : List (List Int)) (prev : List Int), (prev :: r).Pairwise (fun x y => cmpL x y ≤ 0) → (prev :: keepK prev r).Pairwise LtT ∧ ∀ y, y ∈ prev :: keepK prev r ↔ y ∈ prev :: r
  | [], prev, _ => ⟨List.pairwise_singleton _ _, fun _ => Iff.rfl⟩
  | p :: r, prev, h => by
    obtain ⟨h1, h2⟩ := List.pairwise_cons.1 h
    rw [keepK]
    by_cases he : p = prev
    · rw [if_pos he]
      subst he
      obtain ⟨a, b⟩ := keepK_strict r p h2
      refine ⟨a, fun y => ?_⟩
      rw [b y, List.mem_cons, List.mem_cons (a := y) (b := p) (l := p :: r), List.mem_cons]
      constructor
      · exact .inr
      · rintro (h | h)
        · exact .inl h
        · exact h
    · rw [if_neg he]
      obtain ⟨a, b⟩ := keepK_strict r p h2
      have hp : cmpL prev p < 0 := by
        have := h1 p (List.mem_cons_self ..)
        have hn : cmpL prev p ≠ 0 := fun e => he (cmpL_eq e).symm
        omega
      refine ⟨List.pairwise_cons.2 ⟨fun y hy => ?_, a⟩, fun y => ?_⟩
      · rcases List.mem_cons.1 hy with e | hy
        · rw [e]; exact hp
        · exact cmpL_trans hp ((List.pairwise_cons.1 a).1 y hy)
      · rw [List.mem_cons, b y, List.mem_cons (a := y) (b := prev)]
theorem compK_strict : ∀ {l : List (List Int)}, l.Pairwise (fun x y => cmpL x y ≤ 0) → (compK l).Pairwise LtT ∧ ∀ y, y ∈ compK l ↔ y ∈ l
  | [], _ => ⟨List.Pairwise.nil, fun _ => Iff.rfl⟩
  | p :: r, h => keepK_strict r p h
theorem strict_one : ∀ {l l' : List (List Int)}, l.Pairwise LtT → l'.Pairwise LtT → (∀ y, y ∈ l ↔ y ∈ l') → l = l'
  | [], [], _, _, _ => rfl
  | [], y :: l', _, _, h => absurd ((h y).2 (List.mem_cons_self ..)) (by simp)
  | x :: l, [], _, _, h => absurd ((h x).1 (List.mem_cons_self ..)) (by simp)
  | x :: l, y :: l', h1, h2, h => by
    obtain ⟨a1, a2⟩ := List.pairwise_cons.1 h1
    obtain ⟨b1, b2⟩ := List.pairwise_cons.1 h2
    have hxy : x = y := by
      rcases List.mem_cons.1 ((h x).1 (List.mem_cons_self ..)) with e | hx
      · exact e
      rcases List.mem_cons.1 ((h y).2 (List.mem_cons_self ..)) with e | hy
      · exact e.symm
      have u : cmpL y x < 0 := b1 x hx
      have v : cmpL x y < 0 := a1 y hy
      have := cmpL_swap x y
      omega
    subst hxy
    rw [strict_one a2 b2 fun z => ?_]
    have irr : ∀ {m : List (List Int)}, (∀ z ∈ m, LtT x z) → x ∉ m := fun hm hx => by
      have u : cmpL x x < 0 := hm x hx
      rw [cmpL_self] at u
      omega
    have hz := h z
    rw [List.mem_cons, List.mem_cons] at hz
    constructor
    · intro q
      rcases hz.1 (.inr q) with e | q2
      · rw [e] at q; exact absurd q (irr a1)
      · exact q2
    · intro q
      rcases hz.2 (.inr q) with e | q2
      · rw [e] at q; exact absurd q (irr b1)
      · exact q2
/-- Put in one by one, or sorted and each once: the same. -/
theorem told_same (l : List (List Int)) : l.foldl addT [] = compK (sortL l) := by
  obtain ⟨a, b⟩ := compK_strict (sortL_sorted l)
  refine strict_one (foldT_rise l List.Pairwise.nil) a fun y => ?_
  rw [foldT_mem, b y]
  unfold sortL
  rw [(List.mergeSort_perm l fun x y => decide (cmpL x y ≤ 0)).mem_iff]
  simp
theorem addT_sum : ∀ (l : List (List Int)) (t : List Int), ((addT l t).map List.length).sum ≤ (l.map List.length).sum + t.length
  | [], t => by rw [addT]; simp
  | x :: l, t => by
    have ih := addT_sum l t
    rw [addT]
    split
    · rw [List.map_cons, List.sum_cons, List.map_cons, List.sum_cons]; omega
    · split
      · omega
      · rw [List.map_cons, List.sum_cons]; omega
theorem foldT_sum : ∀ (l acc : List (List Int)), ((l.foldl addT acc).map List.length).sum ≤ (l.map List.length).sum + (acc.map List.length).sum
  | [], acc => by simp
  | t :: l, acc => by
    have h := addT_sum acc t
    have := foldT_sum l (addT acc t)
    rw [List.foldl_cons, List.map_cons, List.sum_cons]
    omega

theorem rise_same : ∀ (k : Nat) (x0 : List Int) (x1 x2 : Int) (x9 : List Int) (x10 x11 : Int), spec_l1Rising.l0 k x0 x1 x2 x9 x10 x11 = impl_isRising.l0 k x0 x1 x2 x9 x10 x11
  | 0, _, _, _, _, _, _ => rfl
  | k + 1, x0, x1, x2, x9, x10, x11 => by
    rw [spec_l1Rising.l0, impl_isRising.l0]
    simp only [rise_same k]
    rfl
theorem srise_tells (l : List Int) (a b : Int) (hl : l.length ≤ 4611686018427387904) : Ev (fun k => spec_l1Rising.f k l a b) (riseB l a b) :=
  Ev.congr (fun k => rise_same k _ _ _ _ _ _) (rise_tells l a b hl)

theorem sin_tells (a b c : Int) : spec_l1In.f a b c = some (decide (b ≤ a) && decide (a ≤ c)) := by
  unfold spec_l1In.f
  by_cases h : a ≥ b
  · rw [if_pos h]; simp [show b ≤ a from h]
  · rw [if_neg h]; simp [show ¬ b ≤ a from h]

def inB (a b x : Int) : Bool := decide (a ≤ x) && decide (x ≤ b)
theorem drop_at (l : List Int) (i : Nat) (h : i < l.length) : l.drop i = l.getD i 0 :: l.drop (i + 1) := by
  rw [List.drop_eq_getElem_cons h]
  simp [List.getD, List.getElem?_eq_getElem h]
/-- What a search for a fault comes to, round by round. -/
theorem all_ends {F : Nat → Nat → Option Bool} {p : Nat → Bool} {r : Bool} {n : Nat} (stop : Ev (fun k => F k n) r) (go : ∀ i, i < n → p i = true → ∀ q, Ev (fun k => F k (i + 1)) q → Ev (fun k => F k i) q) (no : ∀ i, i < n → p i = false → Ev (fun k => F k i) false) :
    ∀ (d i : Nat), i + d = n → Ev (fun k => F k i) ((List.range' i d).all p && r)
  | 0, i, h => by
    obtain rfl : i = n := by omega
    simpa using stop
  | d + 1, i, h => by
    have ih := all_ends stop go no d (i + 1) (by omega)
    rw [List.range'_succ, List.all_cons, Bool.and_assoc]
    cases hp : p i with
    | true => simpa using go i (by omega) hp _ ih
    | false => simpa using no i (by omega) hp
theorem all_from {F : Nat → Nat → Option Bool} {p : Nat → Bool} {r : Bool} {n : Nat} (stop : Ev (fun k => F k n) r) (go : ∀ i, i < n → p i = true → ∀ q, Ev (fun k => F k (i + 1)) q → Ev (fun k => F k i) q) (no : ∀ i, i < n → p i = false → Ev (fun k => F k i) false) :
    Ev (fun k => F k 0) ((List.range n).all p && r) := by
  rw [List.range_eq_range']
  exact all_ends stop go no n 0 (by omega)
theorem next (i : Nat) (h : i < 4611686018427387904) : wrap64 ((i : Int) + 1) = ((i + 1 : Nat) : Int) := by
  rw [w64 (by omega) (by omega)]
  omega

theorem sall_l (l : List Int) (a b : Int) (hl : l.length ≤ 4611686018427387904) : ∀ (d i : Nat), i + d = l.length → Ev (fun k => spec_l1All.l0 k a b l (l.length : Int) (i : Int)) ((l.drop i).all (inB a b))
  | 0, i, h => ev_stop fun k => by
    rw [spec_l1All.l0, if_neg (by omega), List.drop_of_length_le (by omega)]
    rfl
  | d + 1, i, h => by
    have ih := sall_l l a b hl d (i + 1) (by omega)
    have h1 : wrap64 ((i : Int) + 1) = ((i + 1 : Nat) : Int) := by rw [w64 (by omega) (by omega)]; omega
    rw [drop_at l i (by omega), List.all_cons]
    refine Ev.step (f := fun k => if inB a b (l.getD i 0) = true then spec_l1All.l0 k a b l (l.length : Int) ((i + 1 : Nat) : Int) else some false) (fun k => by
      rw [spec_l1All.l0, if_pos (by omega), if_pos (by omega), if_pos (by omega), sin_tells, Option.bind_some, h1, rdn]
      rfl) ?_
    cases inB a b (l.getD i 0) with
    | true => simpa using ih
    | false => exact ⟨0, fun k _ => by simp⟩
theorem sall_tells (l : List Int) (a b : Int) (hl : l.length ≤ 4611686018427387904) : Ev (fun k => spec_l1All.f k l a b) (l.all (inB a b)) := by
  have h := sall_l l a b hl l.length 0 (by omega)
  rw [List.drop_zero] at h
  exact h

theorem drop_r (l : List (List Int)) (i : Nat) (h : i < l.length) : l.drop i = l.getD i [] :: l.drop (i + 1) := by
  rw [List.drop_eq_getElem_cons h]
  simp [List.getD, List.getElem?_eq_getElem h]
theorem rdR (l : List (List Int)) (i : Nat) : rd_L1 l (i : Int) = l.getD i [] := by simp [rd_L1]
/-- The weight of a row of rows: each row and each number counts one. -/
def weigh (l : List (List Int)) : Nat := l.length + (l.map List.length).sum
theorem row_le {l : List (List Int)} {x : List Int} (h : x ∈ l) : x.length ≤ (l.map List.length).sum := by
  induction l with
  | nil => simp at h
  | cons a l ih =>
    rw [List.map_cons, List.sum_cons]
    rcases List.mem_cons.1 h with e | e
    · subst e
      omega
    · have := ih e
      omega
theorem getR_mem (l : List (List Int)) (i : Nat) (h : i < l.length) : l.getD i [] ∈ l := by
  have := List.getElem_mem h
  simpa [List.getD, List.getElem?_eq_getElem h] using this

theorem sless_l (a b : List Int) (hl : a.length = b.length) (ha : a.length ≤ 4611686018427387904) : ∀ (d i : Nat), i + d = a.length → Ev (fun k => spec_l3Less.l0 k a b (a.length : Int) (i : Int)) (decide (cmpL (a.drop i) (b.drop i) < 0))
  | 0, i, h => ev_stop fun k => by
    rw [spec_l3Less.l0, if_neg (by omega), List.drop_of_length_le (show a.length ≤ i by omega), List.drop_of_length_le (show b.length ≤ i by omega)]
    rfl
  | d + 1, i, h => by
    have hn : wrap64 ((i : Int) + 1) = ((i + 1 : Nat) : Int) := by rw [w64 (by omega) (by omega)]; omega
    have da : a.drop i = rd a (i : Int) :: a.drop (i + 1) := by rw [List.drop_eq_getElem_cons (show i < a.length by omega), rdn, List.getD_eq_getElem?_getD, List.getElem?_eq_getElem (show i < a.length by omega)]; rfl
    have db : b.drop i = rd b (i : Int) :: b.drop (i + 1) := by rw [List.drop_eq_getElem_cons (show i < b.length by omega), rdn, List.getD_eq_getElem?_getD, List.getElem?_eq_getElem (show i < b.length by omega)]; rfl
    rw [da, db, cmpL]
    by_cases h1 : rd a (i : Int) = rd b (i : Int)
    · have ih := sless_l a b hl ha d (i + 1) (by omega)
      rw [if_neg (by omega), if_neg (by omega)]
      refine ev_step ih fun k => ?_
      rw [spec_l3Less.l0, if_pos (by omega), if_pos (by omega), if_pos (by omega), if_pos (by omega), if_pos h1, hn]
    · refine ev_stop fun k => ?_
      rw [spec_l3Less.l0, if_pos (by omega), if_pos (by omega), if_pos (by omega), if_pos (by omega), if_neg h1]
      by_cases h2 : rd a (i : Int) < rd b (i : Int)
      · rw [if_pos h2, decide_eq_true h2]; rfl
      · rw [if_neg h2, if_pos (by omega), decide_eq_false h2]; rfl
theorem sless_tells (a b : List Int) (hl : a.length = b.length) (ha : a.length ≤ 4611686018427387904) : Ev (fun k => spec_l3Less.f k a b) (decide (cmpL a b < 0)) := by
  have h := sless_l a b hl ha a.length 0 (by omega)
  rw [List.drop_zero, List.drop_zero] at h
  exact h
theorem ssame_l (a b : List Int) (hl : a.length = b.length) (ha : a.length ≤ 4611686018427387904) : ∀ (d i : Nat), i + d = a.length → Ev (fun k => spec_l1Same.l0 k a b (a.length : Int) (i : Int)) (decide (a.drop i = b.drop i))
  | 0, i, h => ev_stop fun k => by
    rw [spec_l1Same.l0, if_neg (by omega), List.drop_of_length_le (show a.length ≤ i by omega), List.drop_of_length_le (show b.length ≤ i by omega), decide_eq_true rfl]
  | d + 1, i, h => by
    have hn : wrap64 ((i : Int) + 1) = ((i + 1 : Nat) : Int) := by rw [w64 (by omega) (by omega)]; omega
    have da : a.drop i = rd a (i : Int) :: a.drop (i + 1) := by rw [List.drop_eq_getElem_cons (show i < a.length by omega), rdn, List.getD_eq_getElem?_getD, List.getElem?_eq_getElem (show i < a.length by omega)]; rfl
    have db : b.drop i = rd b (i : Int) :: b.drop (i + 1) := by rw [List.drop_eq_getElem_cons (show i < b.length by omega), rdn, List.getD_eq_getElem?_getD, List.getElem?_eq_getElem (show i < b.length by omega)]; rfl
    rw [da, db]
    by_cases h1 : rd a (i : Int) = rd b (i : Int)
    · have ih := ssame_l a b hl ha d (i + 1) (by omega)
      have e : decide (rd a (i : Int) :: a.drop (i + 1) = rd b (i : Int) :: b.drop (i + 1)) = decide (a.drop (i + 1) = b.drop (i + 1)) := by simp [h1]
      rw [e]
      refine ev_step ih fun k => ?_
      rw [spec_l1Same.l0, if_pos (by omega), if_pos (by omega), if_pos (by omega), if_pos (by omega), if_pos h1, hn]
    · rw [decide_eq_false (show ¬ (rd a (i : Int) :: a.drop (i + 1) = rd b (i : Int) :: b.drop (i + 1)) from fun h => h1 (List.cons.inj h).1)]
      exact ev_stop fun k => by
        rw [spec_l1Same.l0, if_pos (by omega), if_pos (by omega), if_pos (by omega), if_pos (by omega), if_neg h1]
theorem ssame_tells (a b : List Int) (ha : a.length ≤ 4611686018427387904) : Ev (fun k => spec_l1Same.f k a b) (decide (a = b)) := by
  by_cases hl : a.length = b.length
  · have h := ssame_l a b hl ha a.length 0 (by omega)
    rw [List.drop_zero, List.drop_zero] at h
    exact ev_ite_pos (by omega) h
  · rw [decide_eq_false (fun e => hl (by rw [e]))]
    exact ev_ite_neg (by omega) (ev_some fun _ => rfl)
theorem sadd_l (l : List (List Int)) (t : List Int) (hl : l.length ≤ 3000000) (ht : t.length ≤ 1048576) (hr : ∀ x ∈ l, x.length = t.length) : ∀ (d i : Nat), i + d = l.length → Ev (fun k => spec_l3Add.l0 k l t (i : Int)) (l.take i ++ addT (l.drop i) t)
  | 0, i, h => ev_stop fun k => by
    rw [spec_l3Add.l0, if_neg (by omega), Option.bind_some, if_pos (by omega), if_pos (by omega), Option.bind_some, Int.toNat_natCast, if_pos (by simp; omega), Option.bind_some, Option.bind_some, if_pos (by simp; omega), if_pos (by simp; omega), Option.bind_some, Option.bind_some, if_pos (by simp; omega), List.drop_of_length_le (show l.length ≤ i by omega), addT]
    simp
  | d + 1, i, h => by
    have hx := hr _ (getR_mem l i (by omega))
    have hw := sless_tells (l.getD i []) t hx (by omega)
    rw [drop_r l i (by omega), addT]
    by_cases h1 : cmpL (l.getD i []) t < 0
    · rw [decide_eq_true h1] at hw
      have ih := sadd_l l t hl ht hr d (i + 1) (by omega)
      have e : l.take (i + 1) = l.take i ++ [l.getD i []] := by
        rw [List.take_succ_eq_append_getElem (by omega)]
        simp [List.getD, List.getElem?_eq_getElem (show i < l.length by omega)]
      rw [e, List.append_assoc, List.singleton_append] at ih
      rw [if_pos h1]
      obtain ⟨K1, q1⟩ := hw
      obtain ⟨K2, q2⟩ := ih
      refine ⟨K1 + K2 + 1, fun k hk => ?_⟩
      obtain ⟨q, rfl⟩ : ∃ q, k = q + 1 := ⟨k - 1, by omega⟩
      have a1 := q1 q (by omega)
      have a2 := q2 q (by omega)
      dsimp only at a1 a2 ⊢
      rw [spec_l3Add.l0, if_pos (by omega), if_pos (by omega), rdR, a1, Option.bind_some, if_pos rfl, next i (by omega)]
      exact a2
    · rw [decide_eq_false h1] at hw
      rw [if_neg h1]
      have hs := ssame_tells (l.getD i []) t (by omega)
      have e : l.drop i = l.getD i [] :: l.drop (i + 1) := drop_r l i (by omega)
      obtain ⟨K1, q1⟩ := hw
      obtain ⟨K2, q2⟩ := hs
      refine ⟨K1 + K2 + 1, fun k hk => ?_⟩
      obtain ⟨q, rfl⟩ : ∃ q, k = q + 1 := ⟨k - 1, by omega⟩
      have a1 := q1 q (by omega)
      have a2 := q2 q (by omega)
      dsimp only at a1 a2 ⊢
      rw [spec_l3Add.l0, if_pos (by omega), if_pos (by omega), rdR, a1, Option.bind_some, if_neg (by decide), a2, Option.bind_some]
      by_cases h2 : l.getD i [] = t
      · rw [decide_eq_true h2, if_pos rfl, if_pos h2, ← e, List.take_append_drop]
      · rw [decide_eq_false h2, if_neg (by decide), if_neg h2, ← e, Option.bind_some, if_pos (by omega), Option.bind_some, Int.toNat_natCast, if_pos (by simp; omega), Option.bind_some, Option.bind_some, if_pos (by simp; omega), if_pos (by simp; omega), Option.bind_some, Option.bind_some, if_pos (by simp; omega)]
        simp
theorem sadd_tells (l : List (List Int)) (t : List Int) (hl : l.length ≤ 3000000) (ht : t.length ≤ 1048576) (hr : ∀ x ∈ l, x.length = t.length) : Ev (fun k => spec_l3Add.f k l t) (addT l t) := by
  have h := sadd_l l t hl ht hr l.length 0 (by omega)
  rw [List.take_zero, List.drop_zero, List.nil_append] at h
  exact h
theorem sgoodrel_l (names : List Int) (l : List (List Int)) (hn : names.length ≤ 6) (hl : l.length ≤ 1048576) (hr : ∀ x ∈ l, x.length ≤ 1048576) : ∀ (d i : Nat), i + d = l.length → (0 < i → (l.getD (i - 1) []).length = names.length) → Ev (fun k => spec_GoodRelation.l0 k l (l.length : Int) (i : Int) names l) ((List.range' i d).all (relOk names.length l))
  | 0, i, h, _ => ev_stop fun k => by
    rw [spec_GoodRelation.l0, if_neg (by omega)]
    rfl
  | d + 1, i, h, hp => by
    have hlen := hr _ (getR_mem l i (by omega))
    have hA := sall_tells (l.getD i []) (-1000) 1000 (by omega)
    rw [List.range'_succ, List.all_cons]
    unfold relOk
    unfold tupB
    by_cases h1 : (l.getD i []).length = names.length
    · have eA : (l.getD i []).all (inB (-1000) 1000) = !((l.getD i []).any fun n => !(decide (-1000 ≤ n) && decide (n ≤ 1000))) := by
        rw [List.not_any_eq_all_not]
        congr 1
        funext n
        simp [inB]
      rw [decide_eq_true h1, Bool.true_and, ← eA]
      cases hq : (l.getD i []).all (inB (-1000) 1000) with
      | false =>
        rw [hq] at hA
        obtain ⟨K1, q1⟩ := hA
        refine ⟨K1 + 1, fun k hk => ?_⟩
        obtain ⟨q, rfl⟩ : ∃ q, k = q + 1 := ⟨k - 1, by omega⟩
        have a1 := q1 q (by omega)
        dsimp only at a1 ⊢
        rw [spec_GoodRelation.l0, if_pos (by omega), if_pos (by omega), if_pos (by omega), rdR, if_pos (by omega), a1, Option.bind_some, if_neg (by decide)]
        rfl
      | true =>
        rw [hq] at hA
        obtain ⟨K1, q1⟩ := hA
        have ih := sgoodrel_l names l hn hl hr d (i + 1) (by omega) (fun _ => by rw [Nat.add_sub_cancel]; exact h1)
        unfold relOk at ih
        unfold tupB at ih
        obtain ⟨K2, q2⟩ := ih
        by_cases h0 : i = 0
        · subst h0
          refine ⟨K1 + K2 + 1, fun k hk => ?_⟩
          obtain ⟨q, rfl⟩ : ∃ q, k = q + 1 := ⟨k - 1, by omega⟩
          have a1 := q1 q (by omega)
          have a2 := q2 q (by omega)
          dsimp only at a1 a2 ⊢
          rw [spec_GoodRelation.l0, if_pos (by omega), if_pos (by omega), if_pos (by omega), rdR, if_pos (by omega), a1, Option.bind_some, if_pos rfl, if_neg (by omega), next 0 (by omega), a2]
          simp
        · have hz := hp (by omega)
          have hL := sless_tells (l.getD (i - 1) []) (l.getD i []) (by rw [hz, h1]) (by have := hr _ (getR_mem l (i - 1) (by omega)); omega)
          obtain ⟨K3, q3⟩ := hL
          have em : wrap64 ((i : Int) - 1) = ((i - 1 : Nat) : Int) := by rw [w64 (by omega) (by omega)]; omega
          refine ⟨K1 + K2 + K3 + 1, fun k hk => ?_⟩
          obtain ⟨q, rfl⟩ : ∃ q, k = q + 1 := ⟨k - 1, by omega⟩
          have a1 := q1 q (by omega)
          have a2 := q2 q (by omega)
          have a3 := q3 q (by omega)
          dsimp only at a1 a2 a3 ⊢
          rw [spec_GoodRelation.l0, if_pos (by omega), if_pos (by omega), if_pos (by omega), rdR, if_pos (by omega), a1, Option.bind_some, if_pos rfl, if_pos (by omega), em, if_pos (by omega), if_pos (by omega), rdR, a3, Option.bind_some, next i (by omega)]
          cases hc : decide (cmpL (l.getD (i - 1) []) (l.getD i []) < 0) with
          | true => rw [if_pos rfl, a2]; simp [h0]
          | false => rw [if_neg (by decide)]; simp [h0]
    · rw [decide_eq_false h1]
      exact ev_stop fun k => by
        rw [spec_GoodRelation.l0, if_pos (by omega), if_pos (by omega), if_pos (by omega), rdR, if_neg (by omega)]
        rfl
theorem sgoodrel_tells (names : List Int) (l : List (List Int)) (hn : names.length ≤ 1048576) (hl : l.length ≤ 1048576) (hr : ∀ x ∈ l, x.length ≤ 1048576) : Ev (fun k => spec_GoodRelation.f k names l) (relB names l) := by
  unfold spec_GoodRelation.f relB
  by_cases h6 : names.length ≤ 6
  · rw [decide_eq_true h6, Bool.true_and]
    refine ev_ite_neg (by omega) (ev_bind (srise_tells names 0 20 (by omega)) ?_)
    cases riseB names 0 20 with
    | false =>
      refine ev_ite_neg (by decide) (ev_stop fun k => ?_)
      rw [spec_GoodRelation.j0, if_pos rfl]
      rfl
    | true =>
      refine ev_ite_pos rfl ?_
      by_cases h60 : l.length ≤ 60
      · rw [decide_eq_true h60, Bool.true_and, Bool.true_and, List.range_eq_range', decide_eq_false (show ¬ ((l.length : Int) > 60) by omega)]
        have h := sgoodrel_l names l h6 hl hr l.length 0 (by omega) (fun h => absurd h (by omega))
        refine ev_step h fun k => ?_
        rw [spec_GoodRelation.j0, if_neg (by decide)]
        rfl
      · rw [decide_eq_false h60, decide_eq_true (show ((l.length : Int) > 60) by omega)]
        refine ev_stop fun k => ?_
        rw [spec_GoodRelation.j0, if_pos rfl]
        rfl
  · rw [decide_eq_false h6, Bool.false_and, Bool.false_and]
    exact ev_ite_pos (by omega) (ev_stop fun k => by rw [spec_GoodRelation.j0, if_pos rfl])
theorem stell_l (names : List Int) (m : Nat) (l : List (List Int)) (hn : names.length ≤ 1048576) (hl : l.length ≤ 1048576) (hm : m ≤ 1048576) (hr : ∀ x ∈ l, x.length = m) : ∀ (d i : Nat) (acc : List (List Int)), i + d = l.length → acc.length ≤ i → (∀ x ∈ acc, x.length = m) → Ev (fun k => spec_l3Tell.l0 k l (l.length : Int) (i : Int) names acc) (if relB names ((l.drop i).foldl addT acc) = true then (names, (l.drop i).foldl addT acc, true) else ([], [], false))
  | 0, i, acc, h, ha, hx => by
    rw [List.drop_of_length_le (by omega), List.foldl_nil]
    have hg := sgoodrel_tells names acc hn (by omega) (fun x q => by rw [hx x q]; exact hm)
    refine Ev.step (f := fun k => (spec_GoodRelation.f k names acc).bind fun b => if b = true then some (names, acc, true) else some ([], [], false)) (fun k => by rw [spec_l3Tell.l0, if_neg (by omega)]) (ev_bind hg ?_)
    cases relB names acc with
    | true => exact ev_ite_pos rfl (ev_some fun _ => rfl)
    | false => exact ev_ite_neg (by decide) (ev_some fun _ => rfl)
  | d + 1, i, acc, h, ha, hx => by
    have hi := hr _ (getR_mem l i (by omega))
    rw [drop_r l i (by omega), List.foldl_cons]
    have hadd := sadd_tells acc (l.getD i []) (by omega) (by omega) (fun x q => by rw [hx x q, hi])
    have hlen := foldT_len [l.getD i []] acc
    rw [List.foldl_cons, List.foldl_nil, List.length_singleton] at hlen
    have ih := stell_l names m l hn hl hm hr d (i + 1) (addT acc (l.getD i [])) (by omega) (by omega) (fun x q => by
      rcases (addT_mem _ _ _).1 q with e | q
      · rw [e]; exact hi
      · exact hx x q)
    refine Ev.step (f := fun k => (spec_l3Add.f k acc (l.getD i [])).bind fun t => spec_l3Tell.l0 k l (l.length : Int) ((i + 1 : Nat) : Int) names t) (fun k => ?_) (ev_bind hadd ih)
    rw [spec_l3Tell.l0, if_pos (by omega), if_pos (by omega), if_pos (by omega), rdR, next i (by omega)]
/-- What is told of tuples, all as long as one another. -/
theorem stell_tells (names : List Int) (m : Nat) (l : List (List Int)) (hn : names.length ≤ 1048576) (hl : l.length ≤ 1048576) (hm : m ≤ 1048576) (hr : ∀ x ∈ l, x.length = m) : Ev (fun k => spec_l3Tell.f k names l) (if relB names (compK (sortL l)) = true then (names, compK (sortL l), true) else ([], [], false)) := by
  have h := stell_l names m l hn hl hm hr l.length 0 [] (by omega) (by simp) (by simp)
  rw [List.drop_zero, told_same] at h
  unfold spec_l3Tell.f
  refine ev_some_bind rfl (ev_ite_pos (by simp; omega) ?_)
  rw [List.nil_append]
  exact h
theorem relB_tup {names : List Int} {l : List (List Int)} (h : relB names l = true) : ∀ x ∈ l, x.length = names.length := by
  unfold relB at h
  simp only [Bool.and_eq_true, List.all_eq_true, List.mem_range, relOk, tupB, decide_eq_true_eq] at h
  intro x hx
  obtain ⟨j, hj, rfl⟩ := List.mem_iff_getElem.1 hx
  have := (h.2 j hj).1.1
  simpa [List.getD, List.getElem?_eq_getElem hj] using this
theorem relB_names {names : List Int} {l : List (List Int)} (h : relB names l = true) : names.length ≤ 6 ∧ l.length ≤ 60 := by
  unfold relB at h
  simp only [Bool.and_eq_true, decide_eq_true_eq] at h
  exact ⟨h.1.1, h.1.2.2⟩
/-- Both relations are good, and have the same names. -/
theorem stwo_tells (a : List Int) (l : List (List Int)) (b : List Int) (m : List (List Int)) (ha : a.length ≤ 1048576) (hl : l.length ≤ 1048576) (hlr : ∀ x ∈ l, x.length ≤ 1048576) (hb : b.length ≤ 1048576) (hm : m.length ≤ 1048576) (hmr : ∀ x ∈ m, x.length ≤ 1048576) : Ev (fun k => spec_l3Two.f k a l b m) (relB a l && (relB b m && decide (a = b))) := by
  unfold spec_l3Two.f
  refine ev_bind (sgoodrel_tells a l ha hl hlr) ?_
  cases relB a l with
  | false => exact ev_ite_neg (by decide) (ev_some fun _ => rfl)
  | true =>
    refine ev_ite_pos rfl (ev_bind (sgoodrel_tells b m hb hm hmr) ?_)
    cases relB b m with
    | false => exact ev_ite_neg (by decide) (ev_some fun _ => rfl)
    | true => exact ev_ite_pos rfl (ev_bind (ssame_tells a b (by omega)) (ev_some fun _ => by simp))
theorem ialike_tells (a : List Int) (l : List (List Int)) (b : List Int) (m : List (List Int)) (ha : a.length ≤ 1100000) (hl : l.length ≤ 1100000) (hlr : ∀ x ∈ l, x.length ≤ 1100000) (hb : b.length ≤ 1100000) (hm : m.length ≤ 1100000) (hmr : ∀ x ∈ m, x.length ≤ 1100000) : Ev (fun k => impl_areAlike.f k a l b m) (relB a l && (relB b m && decide (a = b))) := by
  unfold impl_areAlike.f impl_GoodRelation.f
  rw [if_pos ⟨ha, hl, hlr⟩, if_pos ⟨hb, hm, hmr⟩]
  refine ev_some_bind rfl ?_
  cases relB a l with
  | false => exact ev_ite_neg (by decide) (ev_some fun _ => rfl)
  | true =>
    refine ev_ite_pos rfl (ev_some_bind rfl ?_)
    cases relB b m with
    | false => exact ev_ite_neg (by decide) (ev_some fun _ => rfl)
    | true => exact ev_ite_pos rfl (ev_bind (seq_tells a b (by omega)) (ev_some fun _ => by simp))

theorem szint (l : List Int) (a : Int) (h0 : 0 ≤ a) (h1 : a ≤ 1048576) (hl : l.length ≤ maxLen) : laws_szIntS.f l a = some (if a < (l.length : Int) then -1 else a - (l.length : Int)) := by
  have hm : maxLen ≤ 9223372036854775807 := by decide
  unfold laws_szIntS.f
  rw [w64 (by omega) (by omega)]
  split <;> split <;> first | rfl | omega

theorem szss_l (l : List (List Int)) (hl : l.length ≤ 1048576) (hr : ∀ x ∈ l, x.length ≤ maxLen) : ∀ (d i : Nat) (m : Int), i + d = l.length → 0 ≤ m → m ≤ 1048576 → ∃ t, Ev (fun k => laws_szIntSS.l0 k l m (i : Int)) t ∧ (0 ≤ t → ((l.drop i).map List.length).sum ≤ m)
  | 0, i, m, h, h0, _ => ⟨m, ev_stop fun k => by rw [laws_szIntSS.l0, if_neg (by omega)], fun _ => by
    rw [List.drop_of_length_le (by omega)]
    simpa using h0⟩
  | d + 1, i, m, h, h0, hm => by
    have hx : (l.getD i []).length ≤ maxLen := hr _ (by
      have := List.getElem_mem (show i < l.length by omega)
      simpa [List.getD, List.getElem?_eq_getElem (show i < l.length by omega)] using this)
    have e := szint (l.getD i []) m h0 hm hx
    rw [drop_r l i (by omega), List.map_cons, List.sum_cons]
    by_cases hc : m < ((l.getD i []).length : Int)
    · rw [if_pos hc] at e
      exact ⟨-1, ev_stop fun k => by
        rw [laws_szIntSS.l0, if_pos (by omega), if_pos (by omega), rdR, e, Option.bind_some, if_pos (by omega)], by omega⟩
    · rw [if_neg hc] at e
      obtain ⟨t, ht, hb⟩ := szss_l l hl hr d (i + 1) (m - (l.getD i []).length) (by omega) (by omega) (by omega)
      exact ⟨t, ev_step ht fun k => by
        rw [laws_szIntSS.l0, if_pos (by omega), if_pos (by omega), rdR, e, Option.bind_some, if_neg (by omega), next i (by omega)], fun h => by
        have := hb h
        omega⟩
theorem szss (l : List (List Int)) (hl : l.length ≤ maxLen) (hr : ∀ x ∈ l, x.length ≤ maxLen) : ∃ t, Ev (fun k => laws_szIntSS.f k l 1048576) t ∧ (0 ≤ t → weigh l ≤ 1048576) := by
  have hm : maxLen ≤ 9223372036854775807 := by decide
  unfold laws_szIntSS.f
  rw [w64 (by omega) (by omega)]
  by_cases hc : 1048576 - (l.length : Int) < 0
  · exact ⟨-1, ev_ite_pos hc (ev_some fun _ => rfl), by omega⟩
  · obtain ⟨t, ht, hb⟩ := szss_l l (by omega) hr l.length 0 (1048576 - l.length) (by omega) (by omega) (by omega)
    refine ⟨t, ev_ite_neg hc ht, fun h => ?_⟩
    have := hb h
    rw [List.drop_zero] at this
    unfold weigh
    omega

theorem toints_l (l : List Int) (hl : l.length ≤ 4611686018427387904) : ∀ (d i : Nat) (m : List Int), m.length = l.length → i + d = l.length → m.take i = l.take i → Ev (fun k => laws_toIntS.l0 k l m (i : Int)) l
  | 0, i, m, hm, h, ht => ev_stop fun k => by
    rw [laws_toIntS.l0, if_neg (by omega)]
    rw [List.take_of_length_le (by omega), List.take_of_length_le (by omega)] at ht
    rw [ht]
  | d + 1, i, m, hm, h, ht => by
    have h1 : wrap64 ((i : Int) + 1) = ((i + 1 : Nat) : Int) := by rw [w64 (by omega) (by omega)]; omega
    refine ev_step (toints_l l hl d (i + 1) (m.set i (l.getD i 0)) (by simpa using hm) (by omega) ?_) fun k => by
      rw [laws_toIntS.l0, if_pos (by omega), if_pos (by omega), if_pos (by omega), h1, rdn, Int.toNat_natCast]
    rw [List.take_succ_eq_append_getElem (by simp; omega), List.take_succ_eq_append_getElem (by omega), List.take_set_of_le (Nat.le_refl i), ht]
    simp [List.getD, List.getElem?_eq_getElem (show i < l.length by omega)]
theorem toints_tells (l : List Int) (hl : l.length ≤ 35184372088832) : Ev (fun k => laws_toIntS.f k l) l := by
  refine Ev.congr (g := fun k => laws_toIntS.f k l) (fun k => ?_) (toints_l l (by omega) l.length 0 (List.replicate l.length 0) (by simp) (by omega) (by simp))
  unfold laws_toIntS.f
  rw [if_pos (by omega), if_pos (by omega), Int.toNat_natCast]
  rfl

theorem toss_l (l : List (List Int)) (hl : weigh l ≤ 1048576) : ∀ (d i : Nat) (m : List (List Int)), m.length = l.length → i + d = l.length → m.take i = l.take i → Ev (fun k => laws_toIntSS.l0 k l m (i : Int)) l
  | 0, i, m, hm, h, ht => ev_stop fun k => by
    rw [laws_toIntSS.l0, if_neg (by omega)]
    rw [List.take_of_length_le (by omega), List.take_of_length_le (by omega)] at ht
    rw [ht]
  | d + 1, i, m, hm, h, ht => by
    have hw := row_le (getR_mem l i (by omega))
    unfold weigh at hl
    refine Ev.step (f := fun k => (laws_toIntS.f k (l.getD i [])).bind fun t => laws_toIntSS.l0 k l (m.set i t) ((i + 1 : Nat) : Int)) (fun k => ?_) (ev_bind (toints_tells (l.getD i []) (by omega)) (toss_l l hl d (i + 1) (m.set i (l.getD i [])) (by simpa using hm) (by omega) ?_))
    · rw [laws_toIntSS.l0, if_pos (by omega), if_pos (by omega), rdR]
      refine congrArg (Option.bind _) (funext fun t => ?_)
      rw [if_pos (by omega), next i (by omega), Int.toNat_natCast]
    · rw [List.take_succ_eq_append_getElem (by simp; omega), List.take_succ_eq_append_getElem (by omega), List.take_set_of_le (Nat.le_refl i), ht]
      simp [List.getD, List.getElem?_eq_getElem (show i < l.length by omega)]
theorem toss_tells (l : List (List Int)) (hl : weigh l ≤ 1048576) : Ev (fun k => laws_toIntSS.f k l) l := by
  have hl' : l.length ≤ 1048576 := by unfold weigh at hl; omega
  refine Ev.congr (g := fun k => laws_toIntSS.f k l) (fun k => ?_) (toss_l l hl l.length 0 (List.replicate l.length []) (by simp) (by omega) (by simp))
  unfold laws_toIntSS.f
  rw [if_pos (by omega), if_pos (by omega), Int.toNat_natCast]
  rfl

theorem eqints_l (l : List Int) (hl : l.length ≤ 4611686018427387904) : ∀ (d i : Nat), i + d = l.length → Ev (fun k => laws_eqIntS.l0 k l l (i : Int)) true
  | 0, i, h => ev_stop fun k => by
    rw [laws_eqIntS.l0, if_neg (by omega)]
  | d + 1, i, h => by
    have h1 : wrap64 ((i : Int) + 1) = ((i + 1 : Nat) : Int) := by rw [w64 (by omega) (by omega)]; omega
    refine ev_step (eqints_l l hl d (i + 1) (by omega)) fun k => by
      rw [laws_eqIntS.l0, if_pos (by omega), if_pos (by omega), if_pos (by omega), if_pos rfl, h1]
theorem eqints_tells (l : List Int) (hl : l.length ≤ 4611686018427387904) : Ev (fun k => laws_eqIntS.f k l l) true := by
  refine Ev.congr (g := fun k => laws_eqIntS.f k l l) (fun k => ?_) (eqints_l l hl l.length 0 (by omega))
  unfold laws_eqIntS.f
  rw [if_pos rfl]
  rfl

theorem eqss_l (l : List (List Int)) (hl : l.length ≤ 4611686018427387903) (hr : ∀ x ∈ l, x.length ≤ 4611686018427387903) : ∀ (d i : Nat), i + d = l.length → Ev (fun k => laws_eqIntSS.l0 k l l (i : Int)) true
  | 0, i, h => ev_stop fun k => by
    rw [laws_eqIntSS.l0, if_neg (by omega)]
  | d + 1, i, h => by
    have hw := hr _ (getR_mem l i (by omega))
    refine Ev.step (f := fun k => (laws_eqIntS.f k (l.getD i []) (l.getD i [])).bind fun t => if t = true then laws_eqIntSS.l0 k l l ((i + 1 : Nat) : Int) else some false) (fun k => ?_) (ev_bind (eqints_tells _ (by omega)) (ev_ite_pos rfl (eqss_l l hl hr d (i + 1) (by omega))))
    rw [laws_eqIntSS.l0, if_pos (by omega), if_pos (by omega), if_pos (by omega), rdR, next i (by omega)]
theorem eqss_tells (l : List (List Int)) (hl : l.length ≤ 4611686018427387903) (hr : ∀ x ∈ l, x.length ≤ 4611686018427387903) : Ev (fun k => laws_eqIntSS.f k l l) true := by
  refine Ev.congr (g := fun k => laws_eqIntSS.f k l l) (fun k => ?_) (eqss_l l hl hr l.length 0 (by omega))
  unfold laws_eqIntSS.f
  rw [if_pos rfl]
  rfl
theorem eqss_weigh (l : List (List Int)) (hl : weigh l ≤ 1048576) : Ev (fun k => laws_eqIntSS.f k l l) true := by
  unfold weigh at hl
  exact eqss_tells l (by omega) fun x hx => by have := row_le hx; omega



/-- The rising numbers from m on. -/
def upFrom (m : Int) : Nat → List Int
  | 0 => []
  | n + 1 => m :: upFrom (m + 1) n
theorem upFrom_len (m : Int) : ∀ n, (upFrom m n).length = n
  | 0 => rfl
  | n + 1 => by rw [upFrom, List.length_cons, upFrom_len (m + 1) n]
theorem take_set_succ (l : List Int) (i : Nat) (m : Int) (h : i < l.length) : (l.set i m).take (i + 1) = l.take i ++ [m] := by
  rw [List.take_succ_eq_append_getElem (by simpa using h), List.take_set_of_le (Nat.le_refl i)]
  simp
theorem markInt_l : ∀ (d i : Nat) (l : List Int) (m : Int), i + d = l.length → 0 ≤ m → m + d ≤ 4611686018427387903 → l.length ≤ 4611686018427387903 → Ev (fun k => laws_markIntS.l0 k l m (i : Int)) (m + d, l.take i ++ upFrom m d)
  | 0, i, l, m, h, _, _, _ => ev_stop fun k => by
    rw [laws_markIntS.l0, if_neg (by omega), List.take_of_length_le (by omega)]
    simp [upFrom]
  | d + 1, i, l, m, h, hm, hb, hl => by
    have ih := markInt_l d (i + 1) (l.set i m) (m + 1) (by simpa using by omega) (by omega) (by omega) (by simpa using hl)
    rw [take_set_succ l i m (by omega), List.append_assoc] at ih
    have e : m + 1 + (d : Int) = m + ((d + 1 : Nat) : Int) := by omega
    rw [e] at ih
    exact ev_step ih fun k => by rw [laws_markIntS.l0, if_pos (by omega), if_pos (by omega), w64 (by omega) (by omega), next i (by omega), Int.toNat_natCast]
theorem markInt_tells (l : List Int) (m : Int) (hm : 0 ≤ m) (hb : m + l.length ≤ 4611686018427387903) : Ev (fun k => laws_markIntS.f k l m) (m + l.length, upFrom m l.length) := by
  have h := markInt_l l.length 0 l m (by omega) hm hb (by omega)
  rw [List.take_zero, List.nil_append] at h
  exact h

theorem heldInt_l (l : List Int) (hl : l.length ≤ 4611686018427387903) : ∀ (d i : Nat) (m : Int), i + d = l.length → l.drop i = upFrom m d → 0 ≤ m → m + d ≤ 4611686018427387903 → Ev (fun k => laws_heldIntS.l0 k l m (i : Int)) (m + d)
  | 0, i, m, h, _, _, _ => ev_stop fun k => by
    rw [laws_heldIntS.l0, if_neg (by omega)]
    simp
  | d + 1, i, m, h, he, hm, hb => by
    rw [drop_at l i (by omega), upFrom] at he
    injection he with e1 e2
    have ih := heldInt_l l hl d (i + 1) (m + 1) (by omega) e2 (by omega) (by omega)
    have e : m + 1 + (d : Int) = m + ((d + 1 : Nat) : Int) := by omega
    rw [e] at ih
    exact ev_step ih fun k => by rw [laws_heldIntS.l0, if_pos (by omega), if_pos (by omega), rdn, if_pos e1, w64 (by omega) (by omega), next i (by omega)]
theorem heldInt_tells (m : Int) (n : Nat) (hm : 0 ≤ m) (hb : m + n ≤ 4611686018427387903) : Ev (fun k => laws_heldIntS.f k (upFrom m n) m) (m + n) := by
  have h := heldInt_l (upFrom m n) (by rw [upFrom_len]; omega) n 0 m (by rw [upFrom_len]; omega) (by simp) hm hb
  exact h

/-- A row of rows of the rising numbers from m on, of the same lengths. -/
def upRows (m : Int) : List (List Int) → List (List Int)
  | [] => []
  | r :: l => upFrom m r.length :: upRows (m + r.length) l
theorem upRows_len (m : Int) : ∀ l, (upRows m l).length = l.length
  | [] => rfl
  | r :: l => by rw [upRows, List.length_cons, upRows_len (m + r.length) l, List.length_cons]
theorem take_set_row (l : List (List Int)) (i : Nat) (m : List Int) (h : i < l.length) : (l.set i m).take (i + 1) = l.take i ++ [m] := by
  rw [List.take_succ_eq_append_getElem (by simpa using h), List.take_set_of_le (Nat.le_refl i)]
  simp
theorem markss_l : ∀ (d i : Nat) (l : List (List Int)) (m : Int), i + d = l.length → l.length ≤ 4611686018427387903 → 0 ≤ m → m + ((l.drop i).map List.length).sum ≤ 1000000000 → Ev (fun k => laws_markIntSS.l0 k l m (i : Int)) (m + ((l.drop i).map List.length).sum, l.take i ++ upRows m (l.drop i))
  | 0, i, l, m, h, _, _, _ => ev_stop fun k => by
    rw [laws_markIntSS.l0, if_neg (by omega), List.drop_of_length_le (by omega), List.take_of_length_le (by omega)]
    simp [upRows]
  | d + 1, i, l, m, h, hl, hm, hb => by
    rw [drop_r l i (by omega), List.map_cons, List.sum_cons] at hb
    rw [drop_r l i (by omega), List.map_cons, List.sum_cons, upRows]
    have hset : (l.set i (upFrom m (l.getD i []).length)).drop (i + 1) = l.drop (i + 1) := List.drop_set_of_lt (by omega)
    have ih := markss_l d (i + 1) (l.set i (upFrom m (l.getD i []).length)) (m + (l.getD i []).length) (by rw [List.length_set]; omega) (by rw [List.length_set]; omega) (by omega) (by rw [hset]; omega)
    rw [hset, take_set_row l i _ (by omega), List.append_assoc] at ih
    refine Ev.step (f := fun k => (laws_markIntS.f k (l.getD i []) m).bind fun bt => laws_markIntSS.l0 k (l.set i bt.2) bt.1 ((i + 1 : Nat) : Int)) (fun k => ?_) (ev_bind (markInt_tells (l.getD i []) m hm (by omega)) ?_)
    · rw [laws_markIntSS.l0, if_pos (by omega), if_pos (by omega), Int.toNat_natCast, next i (by omega)]
    · have e : m + ((l.getD i []).length : Int) + (((l.drop (i + 1)).map List.length).sum : Int) = m + (((l.getD i []).length + ((l.drop (i + 1)).map List.length).sum : Nat) : Int) := by omega
      rw [e] at ih
      exact ih
theorem markss_tells (l : List (List Int)) (m : Int) (hl : weigh l ≤ 1048576) (hm : 0 ≤ m) (hb : m ≤ 900000000) : Ev (fun k => laws_markIntSS.f k l m) (m + ((l.map List.length).sum : Nat), upRows m l) := by
  unfold weigh at hl
  have h := markss_l l.length 0 l m (by omega) (by omega) hm (by rw [List.drop_zero]; omega)
  rw [List.drop_zero, List.take_zero, List.nil_append] at h
  exact h

theorem heldss_l : ∀ (d i : Nat) (l : List (List Int)) (z : List (List Int)) (m : Int), i + d = z.length → z.length ≤ 4611686018427387903 → z.drop i = upRows m l → 0 ≤ m → m + (l.map List.length).sum ≤ 1000000000 → Ev (fun k => laws_heldIntSS.l0 k z m (i : Int)) (m + ((l.map List.length).sum : Nat))
  | 0, i, l, z, m, h, hz, he, hm, hb => ev_stop fun k => by
    rw [laws_heldIntSS.l0, if_neg (by omega)]
    rw [List.drop_of_length_le (by omega)] at he
    cases l with
    | nil => simp
    | cons r l => simp [upRows] at he
  | d + 1, i, l, z, m, h, hz, he, hm, hb => by
    rw [drop_r z i (by omega)] at he
    cases l with
    | nil => simp [upRows] at he
    | cons r l =>
      rw [upRows] at he
      injection he with e1 e2
      rw [List.map_cons, List.sum_cons] at hb ⊢
      have ih := heldss_l d (i + 1) l z (m + r.length) (by omega) hz e2 (by omega) (by omega)
      refine Ev.step (f := fun k => (laws_heldIntS.f k (z.getD i []) m).bind fun t => if t < 0 then some (-1) else laws_heldIntSS.l0 k z t ((i + 1 : Nat) : Int)) (fun k => ?_) ?_
      · rw [laws_heldIntSS.l0, if_pos (by omega), if_pos (by omega), rdR, next i (by omega)]
      · rw [e1]
        refine ev_bind (heldInt_tells m r.length hm (by omega)) (ev_ite_neg (by omega) ?_)
        have e : m + (r.length : Int) + ((l.map List.length).sum : Nat) = m + ((r.length + (l.map List.length).sum : Nat) : Int) := by omega
        rw [e] at ih
        exact ih
theorem heldss_tells (l : List (List Int)) (m : Int) (hl : weigh l ≤ 1048576) (hm : 0 ≤ m) (hb : m ≤ 900000000) : Ev (fun k => laws_heldIntSS.f k (upRows m l) m) (m + ((l.map List.length).sum : Nat)) := by
  unfold weigh at hl
  exact heldss_l (upRows m l).length 0 l (upRows m l) m (by omega) (by rw [upRows_len]; omega) (by simp) hm (by omega)

/-- What holds from some number of rounds on. -/
def Evs (P : Nat → Prop) : Prop := ∃ K, ∀ k, K ≤ k → P k
theorem Evs.and {P Q : Nat → Prop} (h : Evs P) (h2 : Evs Q) : Evs (fun k => P k ∧ Q k) := by
  obtain ⟨K, hK⟩ := h
  obtain ⟨L, hL⟩ := h2
  exact ⟨max K L, fun k hk => ⟨hK k (by omega), hL k (by omega)⟩⟩
theorem Evs.of {P : Prop} (h : P) : Evs (fun _ => P) := ⟨0, fun _ _ => h⟩
theorem Evs.ev {α : Type} {g : Nat → Option α} {r : α} (h : Ev g r) : Evs (fun k => g k = some r) := h
theorem Evs.now {P : Nat → Prop} (h : Evs P) : ∃ k, P k := by
  obtain ⟨K, hK⟩ := h
  exact ⟨K, hK K (Nat.le_refl _)⟩
theorem Evs.mono {P Q : Nat → Prop} (h : Evs P) (hq : ∀ k, P k → Q k) : Evs Q := by
  obtain ⟨K, hK⟩ := h
  exact ⟨K, fun k hk => hq k (hK k hk)⟩

theorem szss2_l (l : List (List Int)) (hl : l.length ≤ 1048576) (hr : ∀ x ∈ l, x.length ≤ maxLen) : ∀ (d i : Nat) (m : Int), i + d = l.length → 0 ≤ m → m ≤ 1048576 → ∃ t, Ev (fun k => laws_szIntSS.l0 k l m (i : Int)) t ∧ (0 ≤ t → (((l.drop i).map List.length).sum : Int) + t ≤ m)
  | 0, i, m, h, h0, _ => ⟨m, ev_stop fun k => by rw [laws_szIntSS.l0, if_neg (by omega)], fun _ => by
    rw [List.drop_of_length_le (by omega)]
    simp⟩
  | d + 1, i, m, h, h0, hm => by
    have hx : (l.getD i []).length ≤ maxLen := hr _ (getR_mem l i (by omega))
    have e := szint (l.getD i []) m h0 hm hx
    rw [drop_r l i (by omega), List.map_cons, List.sum_cons]
    by_cases hc : m < ((l.getD i []).length : Int)
    · rw [if_pos hc] at e
      exact ⟨-1, ev_stop fun k => by
        rw [laws_szIntSS.l0, if_pos (by omega), if_pos (by omega), rdR, e, Option.bind_some, if_pos (by omega)], by omega⟩
    · rw [if_neg hc] at e
      obtain ⟨t, ht, hb⟩ := szss2_l l hl hr d (i + 1) (m - (l.getD i []).length) (by omega) (by omega) (by omega)
      exact ⟨t, ev_step ht fun k => by
        rw [laws_szIntSS.l0, if_pos (by omega), if_pos (by omega), rdR, e, Option.bind_some, if_neg (by omega), next i (by omega)], fun h => by
        have := hb h
        omega⟩
theorem szss2 (l : List (List Int)) (hl : l.length ≤ maxLen) (hr : ∀ x ∈ l, x.length ≤ maxLen) (m : Int) (h0 : 0 ≤ m) (h1 : m ≤ 1048576) : ∃ t, Ev (fun k => laws_szIntSS.f k l m) t ∧ (0 ≤ t → (weigh l : Int) + t ≤ m) := by
  have hm : maxLen ≤ 9223372036854775807 := by decide
  unfold laws_szIntSS.f
  rw [w64 (by omega) (by omega)]
  by_cases hc : m - (l.length : Int) < 0
  · exact ⟨-1, ev_ite_pos hc (ev_some fun _ => rfl), by omega⟩
  · obtain ⟨t, ht, hb⟩ := szss2_l l (by omega) hr l.length 0 (m - l.length) (by omega) (by omega) (by omega)
    refine ⟨t, ev_ite_neg hc ht, fun h => ?_⟩
    have := hb h
    rw [List.drop_zero] at this
    unfold weigh
    omega
theorem szrel (a : List Int) (l : List (List Int)) (ha : a.length ≤ maxLen) (hl : l.length ≤ maxLen) (hr : ∀ x ∈ l, x.length ≤ maxLen) (m : Int) (h0 : 0 ≤ m) (h1 : m ≤ 1048576) : ∃ t, Ev (fun k => laws_szRelation.f k a l m) t ∧ (0 ≤ t → (a.length : Int) + weigh l + t ≤ m) := by
  unfold laws_szRelation.f
  have e := szint a m h0 h1 ha
  by_cases hc : m < (a.length : Int)
  · rw [if_pos hc] at e
    exact ⟨-1, ev_some_bind e (ev_ite_pos (by omega) (ev_some fun _ => rfl)), by omega⟩
  · rw [if_neg hc] at e
    obtain ⟨t, ht, hb⟩ := szss2 l hl hr (m - a.length) (by omega) (by omega)
    by_cases hn : t < 0
    · exact ⟨-1, ev_some_bind e (ev_ite_neg (by omega) (ev_bind ht (ev_ite_pos hn (ev_some fun _ => rfl)))), by omega⟩
    · exact ⟨t, ev_some_bind e (ev_ite_neg (by omega) (ev_bind ht (ev_ite_neg hn (ev_some fun _ => rfl)))), fun h => by have := hb h; omega⟩
theorem torel_tells (a : List Int) (l : List (List Int)) (ha : a.length ≤ 1048576) (hl : weigh l ≤ 1048576) : Ev (fun k => laws_toRelation.f k a l) (a, l) := by
  unfold laws_toRelation.f
  exact ev_bind (toints_tells a (by omega)) (ev_bind (toss_tells l hl) (ev_some fun _ => rfl))
theorem eqrel_tells (a : List Int) (l : List (List Int)) (ha : a.length ≤ 1048576) (hl : weigh l ≤ 1048576) : Ev (fun k => laws_eqRelation.f k a l a l) true := by
  unfold laws_eqRelation.f
  exact ev_bind (eqints_tells a (by omega)) (ev_ite_pos rfl (ev_bind (eqss_weigh l hl) (ev_ite_pos rfl (ev_some fun _ => rfl))))
theorem markrel_tells (a : List Int) (l : List (List Int)) (m : Int) (ha : a.length ≤ 1048576) (hl : weigh l ≤ 1048576) (h0 : 0 ≤ m) (h1 : m ≤ 800000000) : Ev (fun k => laws_markRelation.f k a l m) (m + a.length + ((l.map List.length).sum : Nat), upFrom m a.length, upRows (m + a.length) l) := by
  unfold laws_markRelation.f
  exact ev_bind (markInt_tells a m h0 (by omega)) (ev_bind (markss_tells l (m + a.length) hl (by omega) (by omega)) (ev_some fun _ => rfl))
theorem heldrel_tells (a : List Int) (l : List (List Int)) (m : Int) (ha : a.length ≤ 1048576) (hl : weigh l ≤ 1048576) (h0 : 0 ≤ m) (h1 : m ≤ 800000000) : Ev (fun k => laws_heldRelation.f k (upFrom m a.length) (upRows (m + a.length) l) m) (m + a.length + ((l.map List.length).sum : Nat)) := by
  unfold laws_heldRelation.f
  exact ev_bind (heldInt_tells m a.length h0 (by omega)) (ev_ite_neg (by omega) (ev_bind (heldss_tells l (m + a.length) hl (by omega) (by omega)) (ev_ite_neg (by omega) (ev_some fun _ => rfl))))

theorem shas_l (l : List (List Int)) (t : List Int) (hl : l.length ≤ 1048576) (hr : ∀ x ∈ l, x.length ≤ 1048576) : ∀ (d i : Nat), i + d = l.length → Ev (fun k => spec_l3Has.l0 k t l (l.length : Int) (i : Int)) ((l.drop i).any fun s => decide (s = t))
  | 0, i, h => ev_stop fun k => by
    rw [spec_l3Has.l0, if_neg (by omega), List.drop_of_length_le (by omega)]
    rfl
  | d + 1, i, h => by
    have hw := hr _ (getR_mem l i (by omega))
    have hs := ssame_tells (l.getD i []) t (by omega)
    have ih := shas_l l t hl hr d (i + 1) (by omega)
    rw [drop_r l i (by omega), List.any_cons]
    refine Ev.step (f := fun k => (spec_l1Same.f k (l.getD i []) t).bind fun b => if b = true then some true else spec_l3Has.l0 k t l (l.length : Int) ((i + 1 : Nat) : Int)) (fun k => by rw [spec_l3Has.l0, if_pos (by omega), if_pos (by omega), if_pos (by omega), rdR, next i (by omega)]) (ev_bind hs ?_)
    cases decide (l.getD i [] = t) with
    | true => exact ev_ite_pos rfl (ev_some fun _ => rfl)
    | false => exact ev_ite_neg (by decide) (by rw [Bool.false_or]; exact ih)
theorem shas_tells (l : List (List Int)) (t : List Int) (hl : l.length ≤ 1048576) (hr : ∀ x ∈ l, x.length ≤ 1048576) : Ev (fun k => spec_l3Has.f k l t) (l.any fun s => decide (s = t)) := by
  have h := shas_l l t hl hr l.length 0 (by omega)
  rw [List.drop_zero] at h
  exact h
theorem swithout_l (a : List Int) (l : List (List Int)) (b : List Int) (m : List (List Int)) (hl : l.length ≤ 1048576) (hm : m.length ≤ 1048576) (hr : ∀ x ∈ m, x.length ≤ 1048576) (r : List Int × List (List Int) × Bool) (ht : Ev (fun k => spec_l3Tell.f k a (l.filter fun x => !(m.any fun s => decide (s = x)))) r) : ∀ (d i : Nat) (acc : List (List Int)), i + d = l.length → acc.length ≤ i → acc ++ (l.drop i).filter (fun x => !(m.any fun s => decide (s = x))) = l.filter (fun x => !(m.any fun s => decide (s = x))) → Ev (fun k => spec_WithoutOf.l0 k acc l (l.length : Int) (i : Int) a l b m) r
  | 0, i, acc, h, _, he => by
    rw [List.drop_of_length_le (by omega), List.filter_nil, List.append_nil] at he
    subst he
    refine Ev.step (f := fun k => (spec_l3Tell.f k a (l.filter fun x => !(m.any fun s => decide (s = x)))).bind fun bt => some (bt.1, bt.2.1, bt.2.2)) (fun k => by rw [spec_WithoutOf.l0, if_neg (by omega)]) (ev_bind ht (ev_some fun _ => rfl))
  | d + 1, i, acc, h, ha, he => by
    have hs := shas_tells m (l.getD i []) hm hr
    rw [drop_r l i (by omega), List.filter_cons] at he
    refine Ev.step (f := fun k => (spec_l3Has.f k m (l.getD i [])).bind fun t => if t = true then spec_WithoutOf.l0 k acc l (l.length : Int) ((i + 1 : Nat) : Int) a l b m else (if acc.length < 5864062014805 then spec_WithoutOf.l0 k (acc ++ [l.getD i []]) l (l.length : Int) ((i + 1 : Nat) : Int) a l b m else none)) (fun k => by rw [spec_WithoutOf.l0, if_pos (by omega), if_pos (by omega), if_pos (by omega), rdR, next i (by omega)]) (ev_bind hs ?_)
    cases hq : m.any fun s => decide (s = l.getD i []) with
    | true =>
      rw [hq] at he
      exact ev_ite_pos rfl (swithout_l a l b m hl hm hr r ht d (i + 1) acc (by omega) (by omega) (by simpa using he))
    | false =>
      rw [hq] at he
      exact ev_ite_neg (by decide) (ev_ite_pos (by omega) (swithout_l a l b m hl hm hr r ht d (i + 1) (acc ++ [l.getD i []]) (by omega) (by simp; omega) (by rw [List.append_assoc]; simpa using he)))
theorem without_same (a : List Int) (l : List (List Int)) (b : List Int) (m : List (List Int)) (ha : a.length ≤ 1048576) (hl : weigh l ≤ 1048576) (hb : b.length ≤ 1048576) (hm : weigh m ≤ 1048576) : ∃ (v : List Int) (u : List (List Int)) (o : Bool), Ev (fun k => spec_WithoutOf.f k a l b m) (v, u, o) ∧ Ev (fun k => impl_WithoutOf.f k a l b m) (v, u, o) ∧ v.length ≤ 1048576 ∧ weigh u ≤ 1048576 := by
  have hl1 : l.length ≤ 1048576 := by unfold weigh at hl; omega
  have hm1 : m.length ≤ 1048576 := by unfold weigh at hm; omega
  have hlr : ∀ x ∈ l, x.length ≤ 1048576 := fun x q => by have := row_le q; unfold weigh at hl; omega
  have hmr : ∀ x ∈ m, x.length ≤ 1048576 := fun x q => by have := row_le q; unfold weigh at hm; omega
  have hS := stwo_tells a l b m ha hl1 hlr hb hm1 hmr
  have hI := ialike_tells a l b m (by omega) (by omega) (fun x q => by have := hlr x q; omega) (by omega) (by omega) (fun x q => by have := hmr x q; omega)
  unfold spec_WithoutOf.f impl_WithoutOf.f
  by_cases hg : relB a l = true ∧ relB b m = true ∧ a = b
  · obtain ⟨g1, g2, g3⟩ := hg
    subst g3
    rw [g1, g2, Bool.true_and, Bool.true_and, decide_eq_true rfl] at hS hI
    have q1 := relB_tup g1
    have q2 := relB_tup g2
    obtain ⟨n1, n2⟩ := relB_names g1
    obtain ⟨_, n3⟩ := relB_names g2
    have hW := fun r ht => swithout_l a l a m hl1 hm1 hmr r ht l.length 0 [] (by omega) (by simp) (by simp)
    have hfl : (l.filter fun x => !(m.any fun s => decide (s = x))).length ≤ l.length := List.length_filter_le _ _
    have hr : ∀ x ∈ l.filter (fun x => !(m.any fun s => decide (s = x))), x.length = a.length := fun x q => q1 x (List.mem_filter.1 q).1
    generalize (l.filter fun x => !(m.any fun s => decide (s = x))) = z at hW hfl hr
    have hT := stell_tells a a.length z ha (by omega) ha hr
    have hlen := relT_len z
    have hw : weigh (compK (sortL z)) ≤ 1048576 := by
      have h6 : ∀ (z : List (List Int)), (∀ x ∈ z, x.length = a.length) → (z.map List.length).sum ≤ z.length * 6 := fun z => by
        induction z with
        | nil => simp
        | cons x z ih =>
          intro hz
          have := ih fun y q => hz y (List.mem_cons_of_mem _ q)
          have := hz x (List.mem_cons_self ..)
          rw [List.map_cons, List.sum_cons, List.length_cons]
          omega
      have := h6 (compK (sortL z)) fun x q => hr x (relT_mem q)
      unfold weigh
      omega
    have hR : impl_related.f a z = some (if relB a (compK (sortL z)) = true then (a, compK (sortL z), true) else ([], [], false)) := by
      unfold impl_related.f
      rw [if_pos ⟨by omega, by omega, fun t q => by have := hr t q; omega⟩]
    generalize compK (sortL z) = u at hT hR hw
    refine ⟨if relB a u = true then a else [], if relB a u = true then u else [], relB a u, ev_bind hS (ev_ite_pos rfl (hW _ (by cases hb2 : relB a u <;> (rw [hb2] at hT; exact hT)))), ev_bind hI (ev_ite_pos rfl (ev_ite_pos ⟨by omega, fun s q => by have := q2 s q; omega⟩ (ev_some fun _ => by rw [hR]; cases relB a u <;> rfl))), by cases relB a u <;> simp <;> omega, by cases relB a u with | true => exact hw | false => exact (by unfold weigh; simp : weigh ([] : List (List Int)) ≤ 1048576)⟩
  · have e : (relB a l && (relB b m && decide (a = b))) = false := by
      cases h1 : relB a l with
      | false => rfl
      | true =>
        cases h2 : relB b m with
        | false => rfl
        | true =>
          have h3 : ¬ a = b := fun h3 => hg ⟨h1, h2, h3⟩
          rw [decide_eq_false h3]
          rfl
    rw [e] at hS hI
    exact ⟨[], [], false, ev_bind hS (ev_ite_neg (by decide) (ev_some fun _ => rfl)), ev_bind hI (ev_ite_neg (by decide) (ev_some fun _ => rfl)), by simp, by unfold weigh; simp⟩
theorem FnExactWithoutOf : laws_FnExactWithoutOf.Good := by
  rintro ⟨a, l⟩ ⟨b, m⟩ ⟨⟨g1, _⟩, g2, g3⟩ ⟨⟨g4, _⟩, g5, g6⟩
  unfold laws_FnExactWithoutOf.Pass
  dsimp only at *
  obtain ⟨t, ht, hb⟩ := szrel a l g1 g2 (fun x q => (g3 x q).1) 1048576 (by omega) (by omega)
  by_cases hn : t < 0
  · exact ((Evs.ev ht).mono fun k h => ⟨t, h, .inl hn⟩).now
  have hb := hb (by omega)
  obtain ⟨t2, ht2, hb2⟩ := szrel b m g4 g5 (fun x q => (g6 x q).1) t (by omega) (by omega)
  by_cases hn2 : t2 < 0
  · exact (((Evs.ev ht).and (Evs.ev ht2)).mono fun k ⟨h, h2⟩ => ⟨t, h, .inr ⟨hn, t2, h2, .inl hn2⟩⟩).now
  have hb2 := hb2 (by omega)
  have h1 : a.length ≤ 1048576 := by omega
  have h2 : weigh l ≤ 1048576 := by omega
  have h3 : b.length ≤ 1048576 := by omega
  have h4 : weigh m ≤ 1048576 := by omega
  obtain ⟨v, u, o, hs, hi, h5, h6⟩ := without_same a l b m h1 h2 h3 h4
  have w2 : (l.map List.length).sum ≤ 1048576 := by unfold weigh at h2; omega
  have w4 : (m.map List.length).sum ≤ 1048576 := by unfold weigh at h4; omega
  have w6 : (u.map List.length).sum ≤ 1048576 := by unfold weigh at h6; omega
  have m0 := markrel_tells a l 1 h1 h2 (by omega) (by omega)
  have m1 := markrel_tells b m (1 + a.length + ((l.map List.length).sum : Nat)) h3 h4 (by omega) (by omega)
  have m2 := markrel_tells v u 1 h5 h6 (by omega) (by omega)
  have hh := heldrel_tells v u 1 h5 h6 (by omega) (by omega)
  exact (((Evs.ev ht).and ((Evs.ev ht2).and ((Evs.ev (torel_tells a l h1 h2)).and ((Evs.ev (torel_tells b m h3 h4)).and ((Evs.ev hs).and ((Evs.ev hi).and ((Evs.ev (eqrel_tells v u h5 h6)).and ((Evs.ev (eqrel_tells a l h1 h2)).and ((Evs.ev (eqrel_tells b m h3 h4)).and ((Evs.ev m0).and ((Evs.ev m1).and ((Evs.ev m2).and (Evs.ev hh))))))))))))).mono fun k ⟨d0, d1, d2, d3, d4, d5, d6, d7, d8, d9, d10, d11, d12⟩ => ⟨t, d0, .inr ⟨hn, t2, d1, .inr ⟨hn2, a, l, b, m, v, u, o, _, _, _, _, _, _, _, _, _, d2, d3, d4, d5, d6, d7, d8, d9, d10, d11, d12, by omega, by omega⟩⟩⟩).now

end Go.Proofs.Ytcihgepinnajjaa.Pure
