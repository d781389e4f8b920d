/- The law FnExactGroupBy: the program's function tells what the reference tells, for all arguments; here: of the two as plain functions of numbers and lists. -/
import Derived.Test.YtlabpbkeaelecaaQFnExactGroupBy
namespace Go.Proofs.Ytlabpbkeaelecaa.Pure
open Go.RowKit Go.Proofs.Ytlabpbkeaelecaa.PFnExactGroupBy Go.Proofs.YtlabpbkeaelecaaW.PrintWords Go.Proofs.YtlabpbkeaelecaaW.PrintLast Go.Proofs.YtlabpbkeaelecaaW.PrintMore
set_option linter.unusedVariables false
set_option linter.unusedSimpArgs false
set_option linter.unnecessarySimpa false

theorem w64 {i : Int} (h0 : -9223372036854775808 ≤ i) (h1 : i ≤ 9223372036854775807) : wrap64 i = i := by
  unfold wrap64
  omega

theorem rdn (l : List Int) (i : Nat) : rd l (i : Int) = l.getD i 0 := by simp [rd]

/-- A round of a loop, then what it comes to. -/
theorem ev_step {α : Type} {g f : Nat → Option α} {r : α} (k : Ev f r) (h : ∀ k, g (k + 1) = f k) : Ev g r := Ev.step h k
theorem ev_some {α : Type} {g : Nat → Option α} {r : α} (h : ∀ k, g k = some r) : Ev g r := ⟨0, fun k _ => h k⟩
theorem ev_stop {α : Type} {g : Nat → Option α} {r : α} (h : ∀ k, g (k + 1) = some r) : Ev g r := Ev.step h (Ev.now r)
theorem ev_bind {α β : Type} {g : Nat → Option α} {f : Nat → α → Option β} {a : α} {r : β} (h : Ev g a) (k : Ev (fun n => f n a) r) : Ev (fun n => (g n).bind (f n)) r := Ev.bind h k
theorem ev_some_bind {α β : Type} {g : Option α} {f : Nat → α → Option β} {a : α} {r : β} (h : g = some a) (k : Ev (fun n => f n a) r) : Ev (fun n => g.bind (f n)) r := by
  subst h
  exact k
theorem ev_ite_pos {α : Type} {c : Prop} [Decidable c] {g f : Nat → Option α} {r : α} (hc : c) (h : Ev g r) : Ev (fun n => if c then g n else f n) r := Ev.congr (fun _ => if_pos hc) h
theorem ev_ite_neg {α : Type} {c : Prop} [Decidable c] {g f : Nat → Option α} {r : α} (hc : ¬ c) (h : Ev f r) : Ev (fun n => if c then g n else f n) r := Ev.congr (fun _ => if_neg hc) h

theorem within_tells (a b c : Int) : impl_within.f a b c = some (decide (b ≤ a) && decide (a ≤ c)) := by
  unfold impl_within.f
  by_cases h : a ≥ b
  · rw [if_pos h]; simp [show b ≤ a from h]
  · rw [if_neg h]; simp [show ¬ b ≤ a from h]

theorem sin_tells (a b c : Int) : spec_l1In.f a b c = some (decide (b ≤ a) && decide (a ≤ c)) := by
  unfold spec_l1In.f
  by_cases h : a ≥ b
  · rw [if_pos h]; simp [show b ≤ a from h]
  · rw [if_neg h]; simp [show ¬ b ≤ a from h]

def manyB (n : Int) : Bool := (decide (3 ≤ n) && decide (n ≤ 9)) && (Int.tmod n 2 == 1)
theorem many_tells (n : Int) : impl_isMany.f n = some (manyB n) := by
  unfold impl_isMany.f manyB
  rw [within_tells, Option.bind_some]
  cases (decide (3 ≤ n) && decide (n ≤ 9)) <;> simp
theorem smany_tells (n : Int) : spec_l11Places.f n = some (manyB n) := by
  unfold spec_l11Places.f manyB
  rw [sin_tells, Option.bind_some]
  cases (decide (3 ≤ n) && decide (n ≤ 9)) <;> simp
theorem many_bd {n : Int} (h : manyB n = true) : 3 ≤ n ∧ n ≤ 9 := by
  unfold manyB at h
  simp only [Bool.and_eq_true, decide_eq_true_eq] at h
  omega

/-- A rising row: its numbers as a set. -/
abbrev Up (l : List Int) : Prop := l.Pairwise (· < ·)
theorem up_ext : ∀ {l m : List Int}, Up l → Up m → (∀ y, y ∈ l ↔ y ∈ m) → l = m
  | [], [], _, _, _ => rfl
  | [], b :: m, _, _, h => by simpa using (h b).2 (by simp)
  | a :: l, [], _, _, h => by simpa using (h a).1 (by simp)
  | a :: l, b :: m, hl, hm, h => by
    have l1 := List.pairwise_cons.1 hl
    have m1 := List.pairwise_cons.1 hm
    have e : a = b := by
      rcases List.mem_cons.1 ((h a).1 (by simp)) with e | e
      · exact e
      · rcases List.mem_cons.1 ((h b).2 (by simp)) with e2 | e2
        · exact e2.symm
        · have := l1.1 b e2
          have := m1.1 a e
          omega
    subst e
    congr 1
    refine up_ext l1.2 m1.2 fun y => ⟨fun hy => ?_, fun hy => ?_⟩
    · rcases List.mem_cons.1 ((h y).1 (List.mem_cons_of_mem _ hy)) with e | e
      · have := l1.1 y hy
        omega
      · exact e
    · rcases List.mem_cons.1 ((h y).2 (List.mem_cons_of_mem _ hy)) with e | e
      · have := m1.1 y hy
        omega
      · exact e
def ins (x : Int) : List Int → List Int
  | [] => [x]
  | a :: l => if a < x then a :: ins x l else if a = x then a :: l else x :: a :: l
theorem mem_ins (x y : Int) : ∀ l : List Int, y ∈ ins x l ↔ y = x ∨ y ∈ l
  | [] => by simp [ins]
  | a :: l => by
    unfold ins
    split
    · rw [List.mem_cons, mem_ins x y l, List.mem_cons]
      exact ⟨fun h => h.elim (fun h => .inr (.inl h)) (fun h => h.elim .inl (fun h => .inr (.inr h))), fun h => h.elim (fun h => .inr (.inl h)) (fun h => h.elim .inl (fun h => .inr (.inr h)))⟩
    · split
      · rename_i h
        subst h
        simp
      · simp
theorem up_ins (x : Int) : ∀ {l : List Int}, Up l → Up (ins x l)
  | [], _ => by simp [ins]
  | a :: l, h => by
    have h1 := List.pairwise_cons.1 h
    unfold ins
    split
    · rename_i hx
      refine List.pairwise_cons.2 ⟨fun y hy => ?_, up_ins x h1.2⟩
      rcases (mem_ins x y l).1 hy with e | e
      · omega
      · exact h1.1 y e
    · split
      · exact h
      · refine List.pairwise_cons.2 ⟨fun y hy => ?_, h⟩
        rcases List.mem_cons.1 hy with e | e
        · omega
        · have := h1.1 y e
          omega
theorem ins_len (x : Int) : ∀ l : List Int, (ins x l).length ≤ l.length + 1
  | [] => by simp [ins]
  | a :: l => by
    have := ins_len x l
    unfold ins
    split
    · simp; omega
    · split <;> simp
theorem upto_of {d : Array Int} (hs : ∀ i j, i ≤ j → j < d.size → d[i]! ≤ d[j]!) : ∀ m, m ≤ d.size → Up (Lib.compactUpTo d m) ∧ ∀ y, y ∈ Lib.compactUpTo d m ↔ ∃ j, j < m ∧ d[j]! = y
  | 0, _ => by simp [Lib.compactUpTo]
  | m + 1, hm => by
    obtain ⟨h1, h2⟩ := upto_of hs m (by omega)
    rw [Lib.compactUpTo_succ]
    by_cases hk : Lib.keeps d m = true
    · rw [if_pos hk]
      refine ⟨List.pairwise_append.2 ⟨h1, by simp, fun y hy z hz => ?_⟩, fun y => ?_⟩
      · obtain ⟨j, hj, rfl⟩ := (h2 y).1 hy
        obtain rfl : z = d[m]! := by simpa using hz
        have hne : d[m]! ≠ d[m - 1]! := by
          simp only [Lib.keeps, decide_eq_true_eq] at hk
          rcases hk with h | h
          · omega
          · exact h
        have a1 := hs j (m - 1) (by omega) (by omega)
        have a2 := hs (m - 1) m (by omega) (by omega)
        omega
      · rw [List.mem_append, h2]
        constructor
        · rintro (⟨j, hj, e⟩ | e)
          · exact ⟨j, by omega, e⟩
          · exact ⟨m, by omega, (List.mem_singleton.1 e).symm⟩
        · rintro ⟨j, hj, e⟩
          by_cases hjm : j < m
          · exact .inl ⟨j, hjm, e⟩
          · obtain rfl : j = m := by omega
            exact .inr (by simp [e])
    · rw [if_neg hk, List.append_nil]
      refine ⟨h1, fun y => ?_⟩
      rw [h2]
      have hk2 : m ≠ 0 ∧ d[m]! = d[m - 1]! := by simpa [Lib.keeps] using hk
      constructor
      · rintro ⟨j, hj, e⟩
        exact ⟨j, by omega, e⟩
      · rintro ⟨j, hj, e⟩
        by_cases hjm : j < m
        · exact ⟨j, hjm, e⟩
        · obtain rfl : j = m := by omega
          exact ⟨j - 1, by omega, by rw [← hk2.2]; exact e⟩
/-- Sorted, and each but once: the rising row of the numbers. -/
def setOf (l : List Int) : List Int := Lib.compact (l.mergeSort fun x y => decide (x ≤ y))
theorem sort_le (l : List Int) : (l.mergeSort fun x y => decide (x ≤ y)).Pairwise (· ≤ ·) := by
  have h := List.pairwise_mergeSort (le := fun x y : Int => decide (x ≤ y)) (fun a b c h1 h2 => by simp only [decide_eq_true_eq] at *; omega) (fun a b => by simp only [Bool.or_eq_true, decide_eq_true_eq]; omega) l
  exact h.imp (fun h => by simpa using h)
theorem setOf_up_mem (l : List Int) : Up (setOf l) ∧ ∀ y, y ∈ setOf l ↔ y ∈ l := by
  have hs := sort_le l
  have hm : ∀ y, y ∈ (l.mergeSort fun x y => decide (x ≤ y)) ↔ y ∈ l := fun y => List.mem_mergeSort
  unfold setOf
  generalize (l.mergeSort fun x y => decide (x ≤ y)) = s at hs hm
  unfold Lib.compact
  obtain ⟨h1, h2⟩ := upto_of (d := s.toArray) (fun i j hij hj => by
    have hj' : j < s.length := by simpa using hj
    rw [getElem!_pos s.toArray i (by simp; omega), getElem!_pos s.toArray j (by simp; omega)]
    simp only [List.getElem_toArray]
    by_cases e : i = j
    · subst e
      exact Int.le_refl _
    · exact List.pairwise_iff_getElem.1 hs i j (by omega) hj' (by omega)) s.length (by simp)
  refine ⟨h1, fun y => (h2 y).trans (Iff.trans ?_ (hm y))⟩
  constructor
  · rintro ⟨j, hj, e⟩
    rw [getElem!_pos s.toArray j (by simpa using hj)] at e
    rw [← e]
    simp
  · intro hy
    obtain ⟨j, hj, e⟩ := List.mem_iff_getElem.1 hy
    exact ⟨j, hj, by rw [getElem!_pos s.toArray j (by simpa using hj)]; simpa using e⟩
theorem setOf_ins {l : List Int} (h : Up l) (x : Int) : setOf (l ++ [x]) = ins x l := by
  obtain ⟨h1, h2⟩ := setOf_up_mem (l ++ [x])
  refine up_ext h1 (up_ins x h) fun y => (h2 y).trans ?_
  rw [mem_ins, List.mem_append, List.mem_singleton]
  exact Or.comm
theorem set_add {L : List Int} (x : Int) : setOf (L ++ [x]) = ins x (setOf L) := by
  obtain ⟨h1, h2⟩ := setOf_up_mem (L ++ [x])
  obtain ⟨h3, h4⟩ := setOf_up_mem L
  refine up_ext h1 (up_ins x h3) fun y => (h2 y).trans ?_
  rw [mem_ins, h4, List.mem_append, List.mem_singleton]
  exact Or.comm
theorem setOf_len (L : List Int) : (setOf L).length ≤ L.length := by
  unfold setOf
  exact Nat.le_trans (Lib.compact_length_le _) (by simp)
theorem sort_nodup {L : List Int} (h : L.Nodup) : (L.mergeSort fun x y => decide (x ≤ y)) = setOf L := by
  obtain ⟨h3, h4⟩ := setOf_up_mem L
  have hs := sort_le L
  have hp : (L.mergeSort fun x y => decide (x ≤ y)).Nodup := (List.mergeSort_perm L _).nodup_iff.2 h
  have hu : Up (L.mergeSort fun x y => decide (x ≤ y)) := by
    refine (List.pairwise_iff_getElem.2 fun i j hi hj hij => ?_)
    have a := List.pairwise_iff_getElem.1 hs i j hi hj hij
    have b := List.pairwise_iff_getElem.1 hp i j hi hj hij
    omega
  exact up_ext hu h3 fun y => List.mem_mergeSort.trans (h4 y).symm

def inB (a b x : Int) : Bool := decide (a ≤ x) && decide (x ≤ b)
theorem drop_at (l : List Int) (i : Nat) (h : i < l.length) : l.drop i = l.getD i 0 :: l.drop (i + 1) := by
  rw [List.drop_eq_getElem_cons h]
  simp [List.getD, List.getElem?_eq_getElem h]
/-- What a search for a fault comes to, round by round. -/
theorem all_ends {F : Nat → Nat → Option Bool} {p : Nat → Bool} {r : Bool} {n : Nat} (stop : Ev (fun k => F k n) r) (go : ∀ i, i < n → p i = true → ∀ q, Ev (fun k => F k (i + 1)) q → Ev (fun k => F k i) q) (no : ∀ i, i < n → p i = false → Ev (fun k => F k i) false) :
    ∀ (d i : Nat), i + d = n → Ev (fun k => F k i) ((List.range' i d).all p && r)
  | 0, i, h => by
    obtain rfl : i = n := by omega
    simpa using stop
  | d + 1, i, h => by
    have ih := all_ends stop go no d (i + 1) (by omega)
    rw [List.range'_succ, List.all_cons, Bool.and_assoc]
    cases hp : p i with
    | true => simpa using go i (by omega) hp _ ih
    | false => simpa using no i (by omega) hp
theorem all_from {F : Nat → Nat → Option Bool} {p : Nat → Bool} {r : Bool} {n : Nat} (stop : Ev (fun k => F k n) r) (go : ∀ i, i < n → p i = true → ∀ q, Ev (fun k => F k (i + 1)) q → Ev (fun k => F k i) q) (no : ∀ i, i < n → p i = false → Ev (fun k => F k i) false) :
    Ev (fun k => F k 0) ((List.range n).all p && r) := by
  rw [List.range_eq_range']
  exact all_ends stop go no n 0 (by omega)
theorem next (i : Nat) (h : i < 4611686018427387904) : wrap64 ((i : Int) + 1) = ((i + 1 : Nat) : Int) := by
  rw [w64 (by omega) (by omega)]
  omega

theorem put_l (l : List Int) (x : Int) (hl : l.length ≤ 1000000000) : ∀ (d i : Nat), i + d = l.length → Ev (fun k => spec_l1Put.l0 k l x (i : Int)) (l.take i ++ ins x (l.drop i))
  | 0, i, h => ev_stop fun k => by
    rw [spec_l1Put.l0, if_neg (by omega)]
    simp only [Option.bind_some, Int.toNat_natCast, List.nil_append, List.length_nil, Nat.zero_add]
    rw [if_pos (by omega), if_pos (by omega), if_pos (by simp; omega), if_pos (by simp; omega), if_pos (by simp; omega), List.drop_of_length_le (by omega)]
    simp [ins]
  | d + 1, i, h => by
    have ih := put_l l x hl d (i + 1) (by omega)
    rw [drop_at l i (by omega), ins]
    have ha := drop_at l i (by omega)
    by_cases h1 : l.getD i 0 < x
    · rw [if_pos h1]
      refine ev_step (by
        have e : l.take (i + 1) = l.take i ++ [l.getD i 0] := by
          rw [List.take_succ_eq_append_getElem (by omega)]
          simp [List.getD, List.getElem?_eq_getElem (show i < l.length by omega)]
        rw [e, List.append_assoc] at ih
        exact ih) fun k => by
        rw [spec_l1Put.l0, if_pos (by omega), if_pos (by omega), rdn, if_pos h1, next i (by omega)]
    · rw [if_neg h1]
      by_cases h2 : l.getD i 0 = x
      · rw [if_pos h2]
        exact ev_stop fun k => by
          rw [spec_l1Put.l0, if_pos (by omega), if_pos (by omega), rdn, if_neg h1, if_pos h2, ← ha, List.take_append_drop]
      · rw [if_neg h2]
        exact ev_stop fun k => by
          rw [spec_l1Put.l0, if_pos (by omega), if_pos (by omega), rdn, if_neg h1, if_neg h2]
          simp only [Option.bind_some, Int.toNat_natCast, List.nil_append, List.length_nil, Nat.zero_add]
          rw [if_pos (by omega), if_pos (by simp; omega), if_pos (by simp; omega), if_pos (by simp; omega), ha]
          simp
theorem put_tells (l : List Int) (x : Int) (hl : l.length ≤ 1000000000) : Ev (fun k => spec_l1Put.f k l x) (ins x l) := by
  have h := put_l l x hl l.length 0 (by omega)
  rw [List.drop_zero, List.take_zero, List.nil_append] at h
  exact h

/-- The rising numbers from m on. -/
def upFrom (m : Int) : Nat → List Int
  | 0 => []
  | n + 1 => m :: upFrom (m + 1) n
theorem upFrom_len (m : Int) : ∀ n, (upFrom m n).length = n
  | 0 => rfl
  | n + 1 => by rw [upFrom, List.length_cons, upFrom_len (m + 1) n]
theorem take_set_succ (l : List Int) (i : Nat) (m : Int) (h : i < l.length) : (l.set i m).take (i + 1) = l.take i ++ [m] := by
  rw [List.take_succ_eq_append_getElem (by simpa using h), List.take_set_of_le (Nat.le_refl i)]
  simp
theorem markInt_l : ∀ (d i : Nat) (l : List Int) (m : Int), i + d = l.length → 0 ≤ m → m + d ≤ 4611686018427387903 → l.length ≤ 4611686018427387903 → Ev (fun k => laws_markIntS.l0 k l m (i : Int)) (m + d, l.take i ++ upFrom m d)
  | 0, i, l, m, h, _, _, _ => ev_stop fun k => by
    rw [laws_markIntS.l0, if_neg (by omega), List.take_of_length_le (by omega)]
    simp [upFrom]
  | d + 1, i, l, m, h, hm, hb, hl => by
    have ih := markInt_l d (i + 1) (l.set i m) (m + 1) (by simpa using by omega) (by omega) (by omega) (by simpa using hl)
    rw [take_set_succ l i m (by omega), List.append_assoc] at ih
    have e : m + 1 + (d : Int) = m + ((d + 1 : Nat) : Int) := by omega
    rw [e] at ih
    exact ev_step ih fun k => by rw [laws_markIntS.l0, if_pos (by omega), if_pos (by omega), w64 (by omega) (by omega), next i (by omega), Int.toNat_natCast]
theorem markInt_tells (l : List Int) (m : Int) (hm : 0 ≤ m) (hb : m + l.length ≤ 4611686018427387903) : Ev (fun k => laws_markIntS.f k l m) (m + l.length, upFrom m l.length) := by
  have h := markInt_l l.length 0 l m (by omega) hm hb (by omega)
  rw [List.take_zero, List.nil_append] at h
  exact h
theorem heldInt_l (l : List Int) (hl : l.length ≤ 4611686018427387903) : ∀ (d i : Nat) (m : Int), i + d = l.length → l.drop i = upFrom m d → 0 ≤ m → m + d ≤ 4611686018427387903 → Ev (fun k => laws_heldIntS.l0 k l m (i : Int)) (m + d)
  | 0, i, m, h, _, _, _ => ev_stop fun k => by
    rw [laws_heldIntS.l0, if_neg (by omega)]
    simp
  | d + 1, i, m, h, he, hm, hb => by
    rw [drop_at l i (by omega), upFrom] at he
    injection he with e1 e2
    have ih := heldInt_l l hl d (i + 1) (m + 1) (by omega) e2 (by omega) (by omega)
    have e : m + 1 + (d : Int) = m + ((d + 1 : Nat) : Int) := by omega
    rw [e] at ih
    exact ev_step ih fun k => by rw [laws_heldIntS.l0, if_pos (by omega), if_pos (by omega), rdn, if_pos e1, w64 (by omega) (by omega), next i (by omega)]
theorem heldInt_tells (m : Int) (n : Nat) (hm : 0 ≤ m) (hb : m + n ≤ 4611686018427387903) : Ev (fun k => laws_heldIntS.f k (upFrom m n) m) (m + n) := by
  have h := heldInt_l (upFrom m n) (by rw [upFrom_len]; omega) n 0 m (by rw [upFrom_len]; omega) (by simp) hm hb
  exact h

theorem eqints_l (l : List Int) (hl : l.length ≤ 4611686018427387904) : ∀ (d i : Nat), i + d = l.length → Ev (fun k => laws_eqIntS.l0 k l l (i : Int)) true
  | 0, i, h => ev_stop fun k => by
    rw [laws_eqIntS.l0, if_neg (by omega)]
  | d + 1, i, h => by
    have h1 : wrap64 ((i : Int) + 1) = ((i + 1 : Nat) : Int) := by rw [w64 (by omega) (by omega)]; omega
    refine ev_step (eqints_l l hl d (i + 1) (by omega)) fun k => by
      rw [laws_eqIntS.l0, if_pos (by omega), if_pos (by omega), if_pos (by omega), if_pos rfl, h1]
theorem eqints_tells (l : List Int) (hl : l.length ≤ 4611686018427387904) : Ev (fun k => laws_eqIntS.f k l l) true := by
  refine Ev.congr (g := fun k => laws_eqIntS.f k l l) (fun k => ?_) (eqints_l l hl l.length 0 (by omega))
  unfold laws_eqIntS.f
  rw [if_pos rfl]
  rfl

theorem mod_val (a n : Int) (h0 : 0 ≤ a) (hn : 0 < n) (h2 : a < 2 * n) : Int.tmod a n = if a < n then a else a - n := by
  rw [Int.tmod_eq_emod_of_nonneg h0]
  by_cases h : a < n
  · rw [if_pos h, Int.emod_eq_of_lt h0 h]
  · rw [if_neg h]
    have e : a = (a - n) + n * 1 := by omega
    rw [e, Int.add_mul_emod_self_left, Int.emod_eq_of_lt (by omega) (by omega)]
    omega
def ringOf (n q : Int) (d : Nat) : List Int := (List.range d).map fun (i : Nat) => Int.tmod (q + (i : Int)) n
theorem ring_succ (n q : Int) (d : Nat) : ringOf n q (d + 1) = ringOf n q d ++ [Int.tmod (q + (d : Int)) n] := by
  unfold ringOf
  rw [List.range_succ, List.map_append]
  rfl
theorem ring_len (n q : Int) (d : Nat) : (ringOf n q d).length = d := by simp [ringOf]
theorem ring_nodup (n q : Int) (d : Nat) (h0 : 0 ≤ q) (h1 : q < n) (hd : (d : Int) ≤ n) : (ringOf n q d).Nodup := by
  unfold ringOf
  refine List.pairwise_iff_getElem.2 fun i j hi hj hij => ?_
  simp only [List.length_map, List.length_range] at hi hj
  simp only [List.getElem_map, List.getElem_range]
  rw [mod_val _ _ (by omega) (by omega) (by omega), mod_val _ _ (by omega) (by omega) (by omega)]
  split <;> split <;> omega
theorem ring_s (n q : Int) (m : Nat) (h0 : 0 ≤ q) (h1 : q < n) (h9 : n ≤ 9) (hm : (m : Int) ≤ n) : ∀ (d i : Nat), i + d = m → Ev (fun k => spec_GroupBy.l0 k n (m : Int) q (setOf (ringOf n q i)) (i : Int)) (setOf (ringOf n q m), true)
  | 0, i, h => by
    obtain rfl : i = m := by omega
    exact ev_stop fun k => by rw [spec_GroupBy.l0, if_neg (by omega)]
  | d + 1, i, h => by
    have ih := ring_s n q m h0 h1 h9 hm d (i + 1) (by omega)
    rw [ring_succ, set_add] at ih
    have hl := setOf_len (ringOf n q i)
    rw [ring_len] at hl
    refine Ev.step (f := fun k => (spec_l1Put.f k (setOf (ringOf n q i)) (Int.tmod (q + (i : Int)) n)).bind fun t => spec_GroupBy.l0 k n (m : Int) q t ((i + 1 : Nat) : Int)) (fun k => ?_) (ev_bind (put_tells _ _ (by omega)) ih)
    rw [spec_GroupBy.l0, if_pos (by omega), if_neg (by omega), w64 (by omega) (by omega), next i (by omega)]
theorem ring_i (n q : Int) (m : Nat) (h0 : 0 ≤ q) (h1 : q < n) (h9 : n ≤ 9) (hm : (m : Int) ≤ n) : ∀ (d i : Nat), i + d = m → Ev (fun k => impl_GroupBy.l0 k n q (ringOf n q i) (m : Int) (i : Int)) (setOf (ringOf n q m), true)
  | 0, i, h => by
    obtain rfl : i = m := by omega
    have hl := ring_len n q i
    exact ev_stop fun k => by
      rw [impl_GroupBy.l0, if_neg (by omega)]
      unfold slices_Sort_int_int.f
      rw [if_pos (by omega), Option.bind_some, sort_nodup (ring_nodup n q i h0 h1 hm)]
  | d + 1, i, h => by
    have ih := ring_i n q m h0 h1 h9 hm d (i + 1) (by omega)
    rw [ring_succ] at ih
    have hl := ring_len n q i
    exact ev_step ih fun k => by
      rw [impl_GroupBy.l0, if_pos (by omega), if_neg (by omega), if_pos (by omega), w64 (by omega) (by omega), next i (by omega)]
theorem setOf_nil : setOf [] = [] := by
  obtain ⟨u, m⟩ := setOf_up_mem []
  exact up_ext u List.Pairwise.nil m
theorem groupby_same (n m q : Int) : ∃ x : List Int × Bool, Ev (fun k => spec_GroupBy.f k n m q) x ∧ Ev (fun k => impl_GroupBy.f k n m q) x ∧ x.1.length ≤ 1048576 := by
  have noS : Ev (fun k => spec_GroupBy.j0 k n m q true) ([], false) := ev_stop fun k => by rw [spec_GroupBy.j0, if_pos rfl]
  have noI : Ev (fun k => impl_GroupBy.j0 k n m q true) ([], false) := ev_stop fun k => by rw [impl_GroupBy.j0, if_pos rfl]
  unfold spec_GroupBy.f impl_GroupBy.f
  simp only [smany_tells, many_tells, sin_tells, within_tells]
  cases hM : manyB n with
  | false => exact ⟨([], false), by simpa using noS, by simpa using noI, by simp⟩
  | true =>
    obtain ⟨b0, b1⟩ := many_bd hM
    rw [w64 (i := n - 1) (by omega) (by omega)]
    cases hA : (decide (1 ≤ m) && decide (m ≤ n)) with
    | false => exact ⟨([], false), by simpa using noS, by simpa using noI, by simp⟩
    | true =>
      cases hB : (decide (0 ≤ q) && decide (q ≤ n - 1)) with
      | false => exact ⟨([], false), by simpa using noS, by simpa using noI, by simp⟩
      | true =>
        simp only [Bool.and_eq_true, decide_eq_true_eq] at hA hB
        obtain ⟨m', rfl⟩ := Int.eq_ofNat_of_zero_le (show 0 ≤ m by omega)
        have s := ring_s n q m' (by omega) (by omega) (by omega) (by omega) m' 0 (by omega)
        have i := ring_i n q m' (by omega) (by omega) (by omega) (by omega) m' 0 (by omega)
        have e0 : ringOf n q 0 = [] := rfl
        rw [e0, setOf_nil] at s
        rw [e0] at i
        have hl := setOf_len (ringOf n q m')
        rw [ring_len] at hl
        refine ⟨(setOf (ringOf n q m'), true), ?_, ?_, by simp only; omega⟩
        · simp only [Option.bind_some, if_true, Bool.not_true]
          exact ev_step s fun k => by rw [spec_GroupBy.j0, if_neg (by simp)]; rfl
        · simp only [Option.bind_some, if_true, Bool.not_true]
          exact ev_step i fun k => by rw [impl_GroupBy.j0, if_neg (by simp)]; rfl
theorem FnExactGroupBy : laws_FnExactGroupBy.Good := by
  intro a0 a1 a2 _ _ _
  refine Ev.rounds ?_
  obtain ⟨⟨x, b⟩, hs, hi, hx⟩ := groupby_same a0 a1 a2
  simp only at hx
  have ex := eqints_tells x (by omega)
  have m := markInt_tells x 1 (by omega) (by omega)
  have h := heldInt_tells 1 x.length (by omega) (by omega)
  unfold laws_FnExactGroupBy.f
  refine ev_bind hs (ev_bind hi (ev_bind ex (ev_ite_pos rfl ?_)))
  refine Ev.step (fun k => by rw [laws_FnExactGroupBy.j0]) ?_
  refine ev_ite_neg (by simp) (ev_bind m (ev_bind h (ev_ite_neg (by omega) (ev_ite_pos rfl (ev_bind hi (ev_bind ex (ev_ite_pos rfl ?_)))))))
  refine Ev.step (fun k => by rw [laws_FnExactGroupBy.j1]) ?_
  exact ev_ite_neg (by simp) (ev_bind h (ev_ite_neg (by omega) (ev_ite_pos rfl (ev_some fun _ => rfl))))

end Go.Proofs.Ytlabpbkeaelecaa.Pure
