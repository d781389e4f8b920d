/- The law FnExactFinishCommit: the program's function tells what the reference tells, for all arguments; here: of the two as plain functions of numbers and lists. -/
import Derived.Test.YtjefmihaiaimlaaQFnExactFinishCommit
namespace Go.Proofs.Ytjefmihaiaimlaa.Pure
open Go.RowKit Go.Proofs.Ytjefmihaiaimlaa.PFnExactFinishCommit Go.Proofs.YtjefmihaiaimlaaW.PrintWords Go.Proofs.YtjefmihaiaimlaaW.PrintLast Go.Proofs.YtjefmihaiaimlaaW.PrintMore
set_option linter.unusedVariables false
set_option linter.unusedSimpArgs false
set_option linter.unnecessarySimpa false

theorem w64 {i : Int} (h0 : -9223372036854775808 ≤ i) (h1 : i ≤ 9223372036854775807) : wrap64 i = i := by
  unfold wrap64
  omega

theorem rdn (l : List Int) (i : Nat) : rd l (i : Int) = l.getD i 0 := by simp [rd]

/-- A round of a loop, then what it comes to. -/
theorem ev_step {α : Type} {g f : Nat → Option α} {r : α} (k : Ev f r) (h : ∀ k, g (k + 1) = f k) : Ev g r := Ev.step h k
theorem ev_some {α : Type} {g : Nat → Option α} {r : α} (h : ∀ k, g k = some r) : Ev g r := ⟨0, fun k _ => h k⟩
theorem ev_stop {α : Type} {g : Nat → Option α} {r : α} (h : ∀ k, g (k + 1) = some r) : Ev g r := Ev.step h (Ev.now r)
theorem ev_bind {α β : Type} {g : Nat → Option α} {f : Nat → α → Option β} {a : α} {r : β} (h : Ev g a) (k : Ev (fun n => f n a) r) : Ev (fun n => (g n).bind (f n)) r := Ev.bind h k
theorem ev_some_bind {α β : Type} {g : Option α} {f : Nat → α → Option β} {a : α} {r : β} (h : g = some a) (k : Ev (fun n => f n a) r) : Ev (fun n => g.bind (f n)) r := by
  subst h
  exact k
theorem ev_ite_pos {α : Type} {c : Prop} [Decidable c] {g f : Nat → Option α} {r : α} (hc : c) (h : Ev g r) : Ev (fun n => if c then g n else f n) r := Ev.congr (fun _ => if_pos hc) h
theorem ev_ite_neg {α : Type} {c : Prop} [Decidable c] {g f : Nat → Option α} {r : α} (hc : ¬ c) (h : Ev f r) : Ev (fun n => if c then g n else f n) r := Ev.congr (fun _ => if_neg hc) h

theorem within_tells (a b c : Int) : impl_within.f a b c = some (decide (b ≤ a) && decide (a ≤ c)) := by
  unfold impl_within.f
  by_cases h : a ≥ b
  · rw [if_pos h]; simp [show b ≤ a from h]
  · rw [if_neg h]; simp [show ¬ b ≤ a from h]

theorem sin_tells (a b c : Int) : spec_l1In.f a b c = some (decide (b ≤ a) && decide (a ≤ c)) := by
  unfold spec_l1In.f
  by_cases h : a ≥ b
  · rw [if_pos h]; simp [show b ≤ a from h]
  · rw [if_neg h]; simp [show ¬ b ≤ a from h]

def inB (a b x : Int) : Bool := decide (a ≤ x) && decide (x ≤ b)
theorem drop_at (l : List Int) (i : Nat) (h : i < l.length) : l.drop i = l.getD i 0 :: l.drop (i + 1) := by
  rw [List.drop_eq_getElem_cons h]
  simp [List.getD, List.getElem?_eq_getElem h]
/-- What a search for a fault comes to, round by round. -/
theorem all_ends {F : Nat → Nat → Option Bool} {p : Nat → Bool} {r : Bool} {n : Nat} (stop : Ev (fun k => F k n) r) (go : ∀ i, i < n → p i = true → ∀ q, Ev (fun k => F k (i + 1)) q → Ev (fun k => F k i) q) (no : ∀ i, i < n → p i = false → Ev (fun k => F k i) false) :
    ∀ (d i : Nat), i + d = n → Ev (fun k => F k i) ((List.range' i d).all p && r)
  | 0, i, h => by
    obtain rfl : i = n := by omega
    simpa using stop
  | d + 1, i, h => by
    have ih := all_ends stop go no d (i + 1) (by omega)
    rw [List.range'_succ, List.all_cons, Bool.and_assoc]
    cases hp : p i with
    | true => simpa using go i (by omega) hp _ ih
    | false => simpa using no i (by omega) hp
theorem all_from {F : Nat → Nat → Option Bool} {p : Nat → Bool} {r : Bool} {n : Nat} (stop : Ev (fun k => F k n) r) (go : ∀ i, i < n → p i = true → ∀ q, Ev (fun k => F k (i + 1)) q → Ev (fun k => F k i) q) (no : ∀ i, i < n → p i = false → Ev (fun k => F k i) false) :
    Ev (fun k => F k 0) ((List.range n).all p && r) := by
  rw [List.range_eq_range']
  exact all_ends stop go no n 0 (by omega)
theorem next (i : Nat) (h : i < 4611686018427387904) : wrap64 ((i : Int) + 1) = ((i + 1 : Nat) : Int) := by
  rw [w64 (by omega) (by omega)]
  omega

theorem has_l (l : List Int) (x : Int) (hl : l.length ≤ 4611686018427387903) : ∀ (d i : Nat), i + d = l.length → Ev (fun k => spec_l1Has.l0 k x l (l.length : Int) (i : Int)) (decide (x ∈ l.drop i))
  | 0, i, h => ev_stop fun k => by
    rw [spec_l1Has.l0, if_neg (by omega), List.drop_of_length_le (by omega)]
    simp
  | d + 1, i, h => by
    have ih := has_l l x hl d (i + 1) (by omega)
    rw [drop_at l i (by omega)]
    by_cases hx : l.getD i 0 = x
    · exact ev_stop fun k => by
        rw [spec_l1Has.l0, if_pos (by omega), if_pos (by omega), if_pos (by omega), rdn, if_pos hx, hx]
        simp
    · refine ev_step (r := decide (x ∈ l.getD i 0 :: l.drop (i + 1))) (by
        have e : decide (x ∈ l.getD i 0 :: l.drop (i + 1)) = decide (x ∈ l.drop (i + 1)) := decide_eq_decide.2 (by
          rw [List.mem_cons]
          exact ⟨fun h => h.resolve_left (fun h => hx h.symm), .inr⟩)
        rw [e]
        exact ih) fun k => by
        rw [spec_l1Has.l0, if_pos (by omega), if_pos (by omega), if_pos (by omega), rdn, if_neg hx, next i (by omega)]
theorem has_tells (l : List Int) (x : Int) (hl : l.length ≤ 4611686018427387903) : Ev (fun k => spec_l1Has.f k l x) (decide (x ∈ l)) := by
  have h := has_l l x hl l.length 0 (by omega)
  rw [List.drop_zero] at h
  exact h

theorem index_l (l : List Int) (x : Int) (hl : l.length ≤ 4611686018427387903) : ∀ (d i : Nat), i + d = l.length → ∃ r : Int, Ev (fun k => slices_Index_int_int.l0 k l x (l.length : Int) (i : Int)) r ∧ (r ≥ 0 ↔ x ∈ l.drop i)
  | 0, i, h => ⟨-1, ev_stop fun k => by
    rw [slices_Index_int_int.l0, if_neg (by omega)], by
    rw [List.drop_of_length_le (by omega)]
    simp⟩
  | d + 1, i, h => by
    obtain ⟨r, hr, hm⟩ := index_l l x hl d (i + 1) (by omega)
    rw [drop_at l i (by omega)]
    by_cases hx : x = l.getD i 0
    · refine ⟨i, ev_stop fun k => ?_, ?_⟩
      · rw [slices_Index_int_int.l0, if_pos (by omega), if_pos (by omega), if_pos (by omega), rdn, if_pos hx]
      · rw [hx]
        simp
    · refine ⟨r, ev_step hr fun k => ?_, hm.trans ?_⟩
      · rw [slices_Index_int_int.l0, if_pos (by omega), if_pos (by omega), if_pos (by omega), rdn, if_neg hx, next i (by omega)]
      · rw [List.mem_cons]
        exact ⟨.inr, fun h => h.resolve_left hx⟩
theorem contains_tells (l : List Int) (x : Int) (hl : l.length ≤ 4611686018427387903) : Ev (fun k => slices_Contains_int_int.f k l x) (decide (x ∈ l)) := by
  obtain ⟨r, hr, hm⟩ := index_l l x hl l.length 0 (by omega)
  rw [List.drop_zero] at hm
  unfold slices_Contains_int_int.f
  refine ev_bind (a := r) hr (ev_some fun _ => ?_)
  rw [decide_eq_decide.2 hm]

def restB (has : Bool) (dec s v : Int) : Bool := if s = 2 then decide (dec = 1) && decide (v = 1) else if s = 3 then decide (dec = 2) || (decide (dec = 0) && has) else decide (dec ≠ 1) || decide (v = 1)
def badB (s v : Int) : Bool := !(inB 0 3 s && inB 0 2 v && !(decide (v = 1) && decide (s = 0)) && !(decide (v = 2) && decide (s ≠ 3)))
def cOk (has : Bool) (dec s v : Int) : Bool := !badB s v && restB has dec s v
def commitB (x y : List Int) (n : Int) : Bool := ((inB 1 5 (x.length : Int) && decide (y.length = x.length)) && inB 0 2 n) && (List.range x.length).all fun i => cOk (decide ((2 : Int) ∈ y)) n (x.getD i 0) (y.getD i 0)
theorem spec_j2 (k : Nat) (has : Bool) (x y : List Int) (n m i s v : Int) (h0 : 0 ≤ n) (h2 : n ≤ 2) : spec_GoodCommit.j2 (k + 1) s v has x m i (badB s v) x y n = if cOk has n s v = true then spec_GoodCommit.l0 k x m (wrap64 (i + 1)) x y n else some false := by
  rw [spec_GoodCommit.j2]
  unfold cOk
  cases badB s v with
  | true => simp
  | false =>
    unfold restB
    by_cases hs2 : s = 2
    · by_cases hn : n = 1 <;> by_cases hv : v = 1 <;> simp [hs2, hn, hv]
    · by_cases hs3 : s = 3
      · by_cases hn : n = 1
        · simp [hs3, hn]
        · by_cases hn0 : n = 0
          · cases has <;> simp [hs3, hn0]
          · have : n = 2 := by omega
            simp [hs3, this]
      · by_cases hn : n = 1 <;> by_cases hv : v = 1 <;> simp [hs2, hs3, hn, hv]
theorem spec_round (k : Nat) (x y : List Int) (n : Int) (i : Nat) (hi : i < x.length) (hy : y.length = x.length) : spec_GoodCommit.l0 (k + 1) x (x.length : Int) (i : Int) x y n = (spec_l1Has.f k y 2).bind fun t => spec_GoodCommit.j2 k (x.getD i 0) (y.getD i 0) t x (x.length : Int) (i : Int) (badB (x.getD i 0) (y.getD i 0)) x y n := by
  rw [spec_GoodCommit.l0, if_pos (by omega), if_pos (by omega), if_pos (by omega), if_pos (by omega), rdn, rdn]
  generalize x.getD i 0 = s
  generalize y.getD i 0 = v
  refine congrArg (Option.bind _) (funext fun t => ?_)
  simp only [sin_tells, Option.bind_some]
  unfold badB
  change (if inB 0 3 s = true then if inB 0 2 v = true then _ else _ else _) = _
  cases inB 0 3 s
  · simp
  cases inB 0 2 v
  · simp
  by_cases hv : v = 1
  · by_cases hs : s = 0 <;> simp [hv, hs]
  · by_cases hv2 : v = 2
    · by_cases hs : s = 3
      · simp [hv2, hs]
      · have e : (s != 3) = true := by simp [hs]
        simp [hv2, hs, e]
    · simp [hv, hv2]
theorem scommit_tells (x y : List Int) (n : Int) (hx : x.length ≤ 1048576) (hy : y.length ≤ 1048576) : Ev (fun k => spec_GoodCommit.f k x y n) (commitB x y n) := by
  have no : Ev (fun k => spec_GoodCommit.j0 k true x y n) false := ev_stop fun k => by rw [spec_GoodCommit.j0, if_pos rfl]
  unfold spec_GoodCommit.f commitB
  simp only [sin_tells]
  refine Ev.congr (fun k => Option.bind_some ..) ?_
  cases h1 : (decide (1 ≤ (x.length : Int)) && decide ((x.length : Int) ≤ 5)) with
  | false =>
    unfold inB
    rw [h1]
    simpa using no
  | true =>
    by_cases h2 : y.length = x.length
    · refine ev_ite_pos rfl (ev_ite_pos (by omega) (Ev.congr (fun k => Option.bind_some ..) ?_))
      cases h3 : (decide (0 ≤ n) && decide (n ≤ 2)) with
      | false =>
        unfold inB
        rw [h1, h3]
        simpa using no
      | true =>
        unfold inB
        rw [h1, h3]
        simp only [h2, decide_true, Bool.and_self, Bool.true_and]
        simp only [Bool.and_eq_true, decide_eq_true_eq] at h3
        have round : ∀ (i : Nat), i < x.length → ∀ q, Ev (fun k => if cOk (decide ((2 : Int) ∈ y)) n (x.getD i 0) (y.getD i 0) = true then spec_GoodCommit.l0 k x (x.length : Int) ((i + 1 : Nat) : Int) x y n else some false) q → Ev (fun k => spec_GoodCommit.l0 k x (x.length : Int) (i : Int) x y n) q := by
          intro i hi q hq
          refine Ev.step (fun k => spec_round k x y n i hi h2) (ev_bind (has_tells y 2 (by omega)) ?_)
          exact Ev.step (fun k => by rw [spec_j2 _ _ _ _ _ _ _ _ _ h3.1 h3.2, next i (by omega)]) hq
        refine Ev.step (fun k => by rw [spec_GoodCommit.j0, if_neg (by simp)]) ?_
        have hh := all_from (F := fun k i => spec_GoodCommit.l0 k x (x.length : Int) (i : Int) x y n) (p := fun i => cOk (decide ((2 : Int) ∈ y)) n (x.getD i 0) (y.getD i 0)) (r := true) (n := x.length) (ev_stop fun k => by rw [spec_GoodCommit.l0, if_neg (by omega)]) (fun i hi hp q hq => round i hi q (ev_ite_pos hp hq)) (fun i hi hp => round i hi _ (ev_ite_neg (by rw [hp]; decide) (ev_some fun _ => rfl)))
        rw [Bool.and_true] at hh
        exact hh
    · refine ev_ite_pos rfl (ev_ite_neg (by omega) ?_)
      simpa [h2] using no
theorem impl_round (x y : List Int) (n : Int) (i : Nat) (hi : i < x.length) (hx : x.length ≤ 1048576) (hy : y.length = x.length) (h0 : 0 ≤ n) (h2 : n ≤ 2) (q : Bool) (hq : Ev (fun k => if cOk (decide ((2 : Int) ∈ y)) n (x.getD i 0) (y.getD i 0) = true then impl_GoodCommit.l0 k x (x.length : Int) ((i + 1 : Nat) : Int) x y n else some false) q) : Ev (fun k => impl_GoodCommit.l0 k x (x.length : Int) (i : Int) x y n) q := by
  refine Ev.step (f := fun k => impl_GoodCommit.j2 k (x.getD i 0) (y.getD i 0) x (x.length : Int) i (!(inB 0 3 (x.getD i 0) && inB 0 2 (y.getD i 0))) x y n) (fun k => ?_) ?_
  · rw [impl_GoodCommit.l0, if_pos (by omega), if_pos (by omega), if_pos (by omega), if_pos (by omega), rdn, rdn]
    simp only [within_tells, Option.bind_some]
    change (if inB 0 3 _ = true then impl_GoodCommit.j2 k _ _ _ _ _ (!(inB 0 2 _)) _ _ _ else _) = _
    cases inB 0 3 (x.getD i 0) <;> simp
  generalize x.getD i 0 = s at hq ⊢
  generalize y.getD i 0 = v at hq ⊢
  unfold cOk badB at hq
  have stop2 : ∀ s v b, b = true → Ev (fun k => impl_GoodCommit.j2 k s v x (x.length : Int) i b x y n) false := fun s v b h => ev_stop fun k => by rw [impl_GoodCommit.j2, if_pos h]
  cases ha : (inB 0 3 s && inB 0 2 v) with
  | false =>
    rw [ha] at hq
    have hq' : Ev (fun _ : Nat => some false) q := by simpa using hq
    obtain ⟨k, hk⟩ := hq'
    obtain rfl : false = q := by simpa using hk k (Nat.le_refl _)
    exact stop2 _ _ _ rfl
  | true =>
    rw [ha] at hq
    refine Ev.step (f := fun k => impl_GoodCommit.j3 k s v x (x.length : Int) i ((decide (v = 1) && decide (s = 0)) || (decide (v = 2) && decide (s ≠ 3))) x y n) (fun k => ?_) ?_
    · rw [impl_GoodCommit.j2]
      by_cases hv : v = 1
      · by_cases hs : s = 0 <;> simp [hv, hs]
      · by_cases hv2 : v = 2
        · by_cases hs : s = 3
          · simp [hv2, hs]
          · have e : (s != 3) = true := by simp [hs]
            simp [hv2, hs, e]
        · simp [hv, hv2]
    have eb : (!!(true && !(decide (v = 1) && decide (s = 0)) && !(decide (v = 2) && decide (s ≠ 3)))) = !((decide (v = 1) && decide (s = 0)) || (decide (v = 2) && decide (s ≠ 3))) := by
      cases (decide (v = 1) && decide (s = 0)) <;> cases (decide (v = 2) && decide (s ≠ 3)) <;> rfl
    rw [eb] at hq
    cases hb : ((decide (v = 1) && decide (s = 0)) || (decide (v = 2) && decide (s ≠ 3))) with
    | true =>
      rw [hb] at hq
      have hq' : Ev (fun _ : Nat => some false) q := by simpa using hq
      obtain ⟨k, hk⟩ := hq'
      obtain rfl : false = q := by simpa using hk k (Nat.le_refl _)
      exact ev_stop fun k => by rw [impl_GoodCommit.j3, if_pos rfl]
    | false =>
      rw [hb] at hq
      simp only [Bool.not_false, Bool.true_and] at hq
      refine Ev.step (f := fun k => impl_GoodCommit.j4 k s x (x.length : Int) i (if s = 2 then !(decide (n = 1) && decide (v = 1)) else decide (n = 1) && !decide (v = 1)) x y n) (fun k => ?_) ?_
      · rw [impl_GoodCommit.j3]
        by_cases hv : v = 1
        · by_cases hs : s = 2 <;> by_cases hn : n = 1 <;> simp [hs, hn, hv]
        · have e : (v != 1) = true := by simp [hv]
          by_cases hs : s = 2 <;> by_cases hn : n = 1 <;> simp [hs, hn, hv, e]
      unfold restB at hq
      by_cases hs2 : s = 2
      · subst hs2
        by_cases hc : n = 1 ∧ v = 1
        · refine Ev.step (fun k => ?_) hq
          rw [impl_GoodCommit.j4]
          simp [hc, next i (by omega)]
        · have hc' : (decide (n = 1) && decide (v = 1)) = false := by simpa using hc
          rw [if_pos rfl] at hq
          rw [if_pos rfl, hc']
          rw [hc'] at hq
          exact Ev.step (fun k => by rw [impl_GoodCommit.j4]; simp) hq
      · by_cases hs3 : s = 3
        · subst hs3
          simp only [if_neg (show ¬ (3 : Int) = 2 by decide), if_true] at hq ⊢
          by_cases hn1 : n = 1
          · subst hn1
            cases hv1 : decide (v = 1) with
            | true =>
              refine Ev.step (f := fun _ => some false) (fun k => ?_) (by simpa using hq)
              rw [impl_GoodCommit.j4]
              simp
            | false =>
              refine Ev.step (f := fun _ => some false) (fun k => ?_) (by simpa using hq)
              rw [impl_GoodCommit.j4]
              simp
          · simp only [hn1, decide_false, Bool.false_and]
            by_cases hn2 : n = 2
            · refine Ev.step (fun k => ?_) (by simpa [hn2] using hq)
              rw [impl_GoodCommit.j4]
              simp [hn2, next i (by omega)]
            · obtain rfl : n = 0 := by omega
              refine Ev.step (f := fun k => (slices_Contains_int_int.f k y 2).bind fun t => if t = true then impl_GoodCommit.l0 k x (x.length : Int) ((i + 1 : Nat) : Int) x y 0 else some false) (fun k => ?_) (ev_bind (contains_tells y 2 (by omega)) (by simpa using hq))
              rw [impl_GoodCommit.j4]
              simp [next i (by omega)]
        · simp only [if_neg hs2, if_neg hs3] at hq ⊢
          by_cases hc : n = 1 ∧ v ≠ 1
          · have hc' : (decide (n = 1) && !decide (v = 1)) = true := by simpa using hc
            have hc2 : (decide (n ≠ 1) || decide (v = 1)) = false := by simpa using hc
            rw [hc2] at hq
            rw [hc']
            exact Ev.step (fun k => by rw [impl_GoodCommit.j4]; simp) hq
          · have hc' : (decide (n = 1) && !decide (v = 1)) = false := by simpa using hc
            have hc2 : (decide (n ≠ 1) || decide (v = 1)) = true := by
              by_cases h : n = 1
              · by_cases h' : v = 1
                · simp [h']
                · exact absurd ⟨h, h'⟩ hc
              · simp [h]
            rw [hc2] at hq
            rw [hc']
            exact Ev.step (fun k => by rw [impl_GoodCommit.j4]; simp [hs3, next i (by omega)]) hq
theorem icommit_tells (x y : List Int) (n : Int) (hx : x.length ≤ 1048576) (hy : y.length ≤ 1048576) : Ev (fun k => impl_GoodCommit.f k x y n) (commitB x y n) := by
  have no : Ev (fun k => impl_GoodCommit.j0 k true x y n) false := ev_stop fun k => by rw [impl_GoodCommit.j0, if_pos rfl]
  unfold impl_GoodCommit.f commitB
  simp only [within_tells]
  refine Ev.congr (fun k => Option.bind_some ..) ?_
  cases h1 : (decide (1 ≤ (x.length : Int)) && decide ((x.length : Int) ≤ 5)) with
  | false =>
    unfold inB
    rw [h1]
    simpa using no
  | true =>
    by_cases h2 : y.length = x.length
    · refine ev_ite_pos rfl (ev_ite_pos (by omega) (Ev.congr (fun k => Option.bind_some ..) ?_))
      cases h3 : (decide (0 ≤ n) && decide (n ≤ 2)) with
      | false =>
        unfold inB
        rw [h1, h3]
        simpa using no
      | true =>
        unfold inB
        rw [h1, h3]
        simp only [h2, decide_true, Bool.and_self, Bool.true_and]
        simp only [Bool.and_eq_true, decide_eq_true_eq] at h3
        refine Ev.step (fun k => by rw [impl_GoodCommit.j0, if_neg (by simp)]) ?_
        have hh := all_from (F := fun k i => impl_GoodCommit.l0 k x (x.length : Int) (i : Int) x y n) (p := fun i => cOk (decide ((2 : Int) ∈ y)) n (x.getD i 0) (y.getD i 0)) (r := true) (n := x.length) (ev_stop fun k => by rw [impl_GoodCommit.l0, if_neg (by omega)]) (fun i hi hp q hq => impl_round x y n i hi hx h2 h3.1 h3.2 q (ev_ite_pos hp hq)) (fun i hi hp => impl_round x y n i hi hx h2 h3.1 h3.2 _ (ev_ite_neg (by rw [hp]; decide) (ev_some fun _ => rfl)))
        rw [Bool.and_true] at hh
        exact hh
    · refine ev_ite_pos rfl (ev_ite_neg (by omega) ?_)
      simpa [h2] using no

theorem eqints_l (l : List Int) (hl : l.length ≤ 4611686018427387904) : ∀ (d i : Nat), i + d = l.length → Ev (fun k => laws_eqIntS.l0 k l l (i : Int)) true
  | 0, i, h => ev_stop fun k => by
    rw [laws_eqIntS.l0, if_neg (by omega)]
  | d + 1, i, h => by
    have h1 : wrap64 ((i : Int) + 1) = ((i + 1 : Nat) : Int) := by rw [w64 (by omega) (by omega)]; omega
    refine ev_step (eqints_l l hl d (i + 1) (by omega)) fun k => by
      rw [laws_eqIntS.l0, if_pos (by omega), if_pos (by omega), if_pos (by omega), if_pos rfl, h1]
theorem eqints_tells (l : List Int) (hl : l.length ≤ 4611686018427387904) : Ev (fun k => laws_eqIntS.f k l l) true := by
  refine Ev.congr (g := fun k => laws_eqIntS.f k l l) (fun k => ?_) (eqints_l l hl l.length 0 (by omega))
  unfold laws_eqIntS.f
  rw [if_pos rfl]
  rfl

theorem eqCommit_tells (x y : List Int) (n : Int) (hx : x.length ≤ 4611686018427387903) (hy : y.length ≤ 4611686018427387903) : Ev (fun k => laws_eqCommit.f k x y n x y n) true := by
  unfold laws_eqCommit.f
  exact ev_bind (eqints_tells x (by omega)) (ev_ite_pos rfl (ev_bind (eqints_tells y (by omega)) (ev_ite_pos rfl (ev_ite_pos rfl (ev_some fun _ => rfl)))))

theorem toints_l (l : List Int) (hl : l.length ≤ 4611686018427387904) : ∀ (d i : Nat) (m : List Int), m.length = l.length → i + d = l.length → m.take i = l.take i → Ev (fun k => laws_toIntS.l0 k l m (i : Int)) l
  | 0, i, m, hm, h, ht => ev_stop fun k => by
    rw [laws_toIntS.l0, if_neg (by omega)]
    rw [List.take_of_length_le (by omega), List.take_of_length_le (by omega)] at ht
    rw [ht]
  | d + 1, i, m, hm, h, ht => by
    have h1 : wrap64 ((i : Int) + 1) = ((i + 1 : Nat) : Int) := by rw [w64 (by omega) (by omega)]; omega
    refine ev_step (toints_l l hl d (i + 1) (m.set i (l.getD i 0)) (by simpa using hm) (by omega) ?_) fun k => by
      rw [laws_toIntS.l0, if_pos (by omega), if_pos (by omega), if_pos (by omega), h1, rdn, Int.toNat_natCast]
    rw [List.take_succ_eq_append_getElem (by simp; omega), List.take_succ_eq_append_getElem (by omega), List.take_set_of_le (Nat.le_refl i), ht]
    simp [List.getD, List.getElem?_eq_getElem (show i < l.length by omega)]
theorem toints_tells (l : List Int) (hl : l.length ≤ 35184372088832) : Ev (fun k => laws_toIntS.f k l) l := by
  refine Ev.congr (g := fun k => laws_toIntS.f k l) (fun k => ?_) (toints_l l (by omega) l.length 0 (List.replicate l.length 0) (by simp) (by omega) (by simp))
  unfold laws_toIntS.f
  rw [if_pos (by omega), if_pos (by omega), Int.toNat_natCast]
  rfl

theorem szint (l : List Int) (a : Int) (h0 : 0 ≤ a) (h1 : a ≤ 1048576) (hl : l.length ≤ maxLen) : laws_szIntS.f l a = some (if a < (l.length : Int) then -1 else a - (l.length : Int)) := by
  have hm : maxLen ≤ 9223372036854775807 := by decide
  unfold laws_szIntS.f
  rw [w64 (by omega) (by omega)]
  split <;> split <;> first | rfl | omega

theorem toCommit_tells (x y : List Int) (n : Int) (hx : x.length ≤ 1048576) (hy : y.length ≤ 1048576) : Ev (fun k => laws_toCommit.f k x y n) (x, y, n) := by
  unfold laws_toCommit.f
  exact ev_bind (toints_tells x (by omega)) (ev_bind (toints_tells y (by omega)) (ev_some fun _ => rfl))
theorem szcommit (x y : List Int) (n : Int) (hx : x.length ≤ maxLen) (hy : y.length ≤ maxLen) : ∃ t, laws_szCommit.f x y n 1048576 = some t ∧ (0 ≤ t → x.length ≤ 1048576 ∧ y.length ≤ 1048576) := by
  unfold laws_szCommit.f
  rw [szint x _ (by omega) (by omega) hx, Option.bind_some]
  by_cases h : 1048576 < (x.length : Int)
  · exact ⟨-1, by simp [h], by omega⟩
  · rw [if_neg h, if_neg (by omega), szint y _ (by omega) (by omega) hy, Option.bind_some]
    by_cases h2 : 1048576 - (x.length : Int) < (y.length : Int)
    · exact ⟨-1, by simp [h2], by omega⟩
    · rw [if_neg h2, if_neg (by omega)]
      exact ⟨_, rfl, by omega⟩

/-- The rising numbers from m on. -/
def upFrom (m : Int) : Nat → List Int
  | 0 => []
  | n + 1 => m :: upFrom (m + 1) n
theorem upFrom_len (m : Int) : ∀ n, (upFrom m n).length = n
  | 0 => rfl
  | n + 1 => by rw [upFrom, List.length_cons, upFrom_len (m + 1) n]
theorem take_set_succ (l : List Int) (i : Nat) (m : Int) (h : i < l.length) : (l.set i m).take (i + 1) = l.take i ++ [m] := by
  rw [List.take_succ_eq_append_getElem (by simpa using h), List.take_set_of_le (Nat.le_refl i)]
  simp
theorem markInt_l : ∀ (d i : Nat) (l : List Int) (m : Int), i + d = l.length → 0 ≤ m → m + d ≤ 4611686018427387903 → l.length ≤ 4611686018427387903 → Ev (fun k => laws_markIntS.l0 k l m (i : Int)) (m + d, l.take i ++ upFrom m d)
  | 0, i, l, m, h, _, _, _ => ev_stop fun k => by
    rw [laws_markIntS.l0, if_neg (by omega), List.take_of_length_le (by omega)]
    simp [upFrom]
  | d + 1, i, l, m, h, hm, hb, hl => by
    have ih := markInt_l d (i + 1) (l.set i m) (m + 1) (by simpa using by omega) (by omega) (by omega) (by simpa using hl)
    rw [take_set_succ l i m (by omega), List.append_assoc] at ih
    have e : m + 1 + (d : Int) = m + ((d + 1 : Nat) : Int) := by omega
    rw [e] at ih
    exact ev_step ih fun k => by rw [laws_markIntS.l0, if_pos (by omega), if_pos (by omega), w64 (by omega) (by omega), next i (by omega), Int.toNat_natCast]
theorem markInt_tells (l : List Int) (m : Int) (hm : 0 ≤ m) (hb : m + l.length ≤ 4611686018427387903) : Ev (fun k => laws_markIntS.f k l m) (m + l.length, upFrom m l.length) := by
  have h := markInt_l l.length 0 l m (by omega) hm hb (by omega)
  rw [List.take_zero, List.nil_append] at h
  exact h

theorem heldInt_l (l : List Int) (hl : l.length ≤ 4611686018427387903) : ∀ (d i : Nat) (m : Int), i + d = l.length → l.drop i = upFrom m d → 0 ≤ m → m + d ≤ 4611686018427387903 → Ev (fun k => laws_heldIntS.l0 k l m (i : Int)) (m + d)
  | 0, i, m, h, _, _, _ => ev_stop fun k => by
    rw [laws_heldIntS.l0, if_neg (by omega)]
    simp
  | d + 1, i, m, h, he, hm, hb => by
    rw [drop_at l i (by omega), upFrom] at he
    injection he with e1 e2
    have ih := heldInt_l l hl d (i + 1) (m + 1) (by omega) e2 (by omega) (by omega)
    have e : m + 1 + (d : Int) = m + ((d + 1 : Nat) : Int) := by omega
    rw [e] at ih
    exact ev_step ih fun k => by rw [laws_heldIntS.l0, if_pos (by omega), if_pos (by omega), rdn, if_pos e1, w64 (by omega) (by omega), next i (by omega)]
theorem heldInt_tells (m : Int) (n : Nat) (hm : 0 ≤ m) (hb : m + n ≤ 4611686018427387903) : Ev (fun k => laws_heldIntS.f k (upFrom m n) m) (m + n) := by
  have h := heldInt_l (upFrom m n) (by rw [upFrom_len]; omega) n 0 m (by rw [upFrom_len]; omega) (by simp) hm hb
  exact h

theorem markCommit_tells (x y : List Int) (n m : Int) (hm : 0 ≤ m) (hb : m ≤ 1000000000) (hx : x.length ≤ 1048576) (hy : y.length ≤ 1048576) : Ev (fun k => laws_markCommit.f k x y n m) (m + x.length + y.length, upFrom m x.length, upFrom (m + x.length) y.length) := by
  unfold laws_markCommit.f
  exact ev_bind (markInt_tells x m (by omega) (by omega)) (ev_bind (markInt_tells y (m + x.length) (by omega) (by omega)) (ev_some fun _ => rfl))
theorem heldCommit_tells (n m : Int) (a b : Nat) (hm : 0 ≤ m) (hb : m ≤ 1000000000) (hx : a ≤ 1048576) (hy : b ≤ 1048576) : Ev (fun k => laws_heldCommit.f k (upFrom m a) (upFrom (m + a) b) n m) (m + a + b) := by
  unfold laws_heldCommit.f
  exact ev_bind (heldInt_tells m a (by omega) (by omega)) (ev_ite_neg (by omega) (ev_bind (heldInt_tells (m + a) b (by omega) (by omega)) (ev_ite_neg (by omega) (ev_some fun _ => rfl))))

theorem own_tells (x y : List Int) (n : Int) (hx : x.length ≤ 5) (hy : y.length ≤ 5) : spec_l16Own.f x y n = some (x, y, n) := by
  unfold spec_l16Own.f
  simp only [Option.bind_some, List.nil_append, List.length_nil, Nat.zero_add]
  rw [if_pos (by omega), if_pos (by omega)]
theorem commitB_facts {x y : List Int} {n : Int} (h : commitB x y n = true) : 1 ≤ x.length ∧ x.length ≤ 5 ∧ y.length = x.length ∧ (n = 0 ∨ n = 1 ∨ n = 2) := by
  unfold commitB inB at h
  simp only [Bool.and_eq_true, decide_eq_true_eq] at h
  obtain ⟨⟨⟨⟨h1, h2⟩, h3⟩, h4, h5⟩, _⟩ := h
  omega

/-- What holds from some number of rounds on. -/
def Evs (P : Nat → Prop) : Prop := ∃ K, ∀ k, K ≤ k → P k
theorem Evs.and {P Q : Nat → Prop} (h : Evs P) (h2 : Evs Q) : Evs (fun k => P k ∧ Q k) := by
  obtain ⟨K, hK⟩ := h
  obtain ⟨L, hL⟩ := h2
  exact ⟨max K L, fun k hk => ⟨hK k (by omega), hL k (by omega)⟩⟩
theorem Evs.of {P : Prop} (h : P) : Evs (fun _ => P) := ⟨0, fun _ _ => h⟩
theorem Evs.ev {α : Type} {g : Nat → Option α} {r : α} (h : Ev g r) : Evs (fun k => g k = some r) := h
theorem Evs.now {P : Nat → Prop} (h : Evs P) : ∃ k, P k := by
  obtain ⟨K, hK⟩ := h
  exact ⟨K, hK K (Nat.le_refl _)⟩
theorem Evs.mono {P Q : Nat → Prop} (h : Evs P) (hq : ∀ k, P k → Q k) : Evs Q := by
  obtain ⟨K, hK⟩ := h
  exact ⟨K, fun k hk => hq k (hK k hk)⟩

theorem stepR_decide (x y : List Int) (n : Int) (h1 : 1 ≤ x.length) : stepR x y n 3 0 0 = (x, y, decW y n, decide (n = 0)) := by
  unfold stepR
  rw [if_pos (by simp; omega), if_neg (by decide), if_pos rfl, if_neg (by decide), if_neg (by decide), if_pos rfl, if_pos rfl]
theorem stepR_tell (x y : List Int) (n i : Int) (h0 : 0 ≤ i) (h1 : i < x.length) : stepR x y n 4 i 0 = (tellP x n i, y, n, tellB x n i) := by
  unfold stepR
  rw [if_pos (by simp; omega), if_neg (by decide), if_pos rfl, if_neg (by decide), if_neg (by decide), if_neg (by decide), if_pos rfl]
theorem decW_two (y : List Int) (n : Int) (h : n = 0 ∨ n = 1 ∨ n = 2) : decW y n = 1 ∨ decW y n = 2 := by
  unfold decW
  by_cases h0 : n = 0
  · rw [if_pos h0]
    split
    · exact .inr rfl
    · exact .inl rfl
  · rw [if_neg h0]
    omega
theorem finish_from (N : Nat) (hN : 1 ≤ N) (hN5 : N ≤ 5) (y : List Int) (hy : y.length = N) (q : Int) (hq : q = 1 ∨ q = 2) : ∀ (d : Nat) (l : List Int) (i : Int), 0 ≤ i → i + d = N → l.length = N → ∀ k, d < k → spec_FinishCommit.l0 k (N : Int) i l y q = some (tellFrom q d l i, y, q, true)
  | 0, l, i, h0, h, hl, k, hk => by
    obtain ⟨k, rfl⟩ : ∃ m, k = m + 1 := ⟨k - 1, by omega⟩
    rw [spec_FinishCommit.l0, if_neg (by omega), own_tells l y q (by omega) (by omega)]
    rfl
  | d + 1, l, i, h0, h, hl, k, hk => by
    obtain ⟨k, rfl⟩ : ∃ m, k = m + 1 := ⟨k - 1, by omega⟩
    have hs : spec_l16Step.f l y q 4 i 0 = some (stepR l y q 4 i 0) := by
      unfold spec_l16Step.f
      rw [if_pos (by omega), if_pos (by omega), if_pos (by omega), if_pos (by omega)]
    have hw : wrap64 (i + 1) = i + 1 := h_w64 (by omega) (by omega)
    rw [spec_FinishCommit.l0, if_pos (by omega), hs, Option.bind_some, stepR_tell l y q i h0 (by omega), hw]
    exact finish_from N hN hN5 y hy q hq d (tellP l q i) (i + 1) (by omega) (by omega) (by rw [tellP_length]; exact hl) k (by omega)
theorem finish_same (x y : List Int) (n : Int) (hx : x.length ≤ 1048576) (hy : y.length ≤ 1048576) : ∃ (a b : List Int) (c : Int) (o : Bool), Ev (fun k => spec_FinishCommit.f k x y n) (a, b, c, o) ∧ Ev (fun k => impl_FinishCommit.f k x y n) (a, b, c, o) ∧ a.length ≤ 5 ∧ b.length ≤ 5 := by
  have hS := scommit_tells x y n hx hy
  have hI := icommit_tells x y n hx hy
  unfold spec_FinishCommit.f impl_FinishCommit.f
  cases hB : commitB x y n with
  | false =>
    rw [hB] at hS hI
    exact ⟨[], [], 0, false, ev_bind hS (ev_ite_neg (by simp) (ev_some fun _ => rfl)), ev_bind hI (ev_ite_neg (by simp) (ev_some fun _ => rfl)), by simp, by simp⟩
  | true =>
    rw [hB] at hS hI
    obtain ⟨h1, h5, he, hn⟩ := commitB_facts hB
    have hs : spec_l16Step.f x y n 3 0 0 = some (x, y, decW y n, decide (n = 0)) := by
      unfold spec_l16Step.f
      rw [if_pos (by omega), if_pos (by omega), if_pos (by omega), if_pos hn, stepR_decide x y n h1]
    have hf := finish_from x.length h1 h5 y he (decW y n) (decW_two y n hn) x.length x 0 (by omega) (by omega) rfl
    have hlen : ∀ (d : Nat) (l : List Int) (i : Int), (tellFrom (decW y n) d l i).length = l.length := by
      intro d
      induction d with
      | zero => intro l i; rfl
      | succ d ih => intro l i; rw [tellFrom, ih, tellP_length]
    refine ⟨tellFrom (decW y n) x.length x 0, y, decW y n, true, ?_, ?_, by rw [hlen]; exact h5, by omega⟩
    · refine ev_bind hS (ev_ite_pos rfl (ev_some_bind (own_tells x y n h5 (by omega)) (ev_some_bind hs ?_)))
      exact ⟨x.length + 1, fun k hk => hf k (by omega)⟩
    · refine ev_bind hI (ev_ite_pos rfl (ev_ite_pos h5 (ev_ite_pos (by omega) (ev_some fun _ => rfl))))
theorem FnExactFinishCommit : laws_FnExactFinishCommit.Good := by
  rintro ⟨x, y, n⟩ ⟨⟨h0, _⟩, ⟨h1, _⟩, _⟩
  simp only at h0 h1
  unfold laws_FnExactFinishCommit.Pass
  obtain ⟨t, ht, hb⟩ := szcommit x y n h0 h1
  by_cases hg : t < 0
  · exact ⟨0, t, ht, .inl hg⟩
  obtain ⟨hx, hy⟩ := hb (by omega)
  have hT := toCommit_tells x y n hx hy
  obtain ⟨a, b, c, o, hs, hi, ha, hbl⟩ := finish_same x y n hx hy
  have m0 := markCommit_tells x y n 1 (by omega) (by omega) hx hy
  have m1 := markCommit_tells a b c 1 (by omega) (by omega) (by omega) (by omega)
  have hh := heldCommit_tells c 1 a.length b.length (by omega) (by omega) (by omega) (by omega)
  exact (((Evs.ev hT).and ((Evs.ev hs).and ((Evs.ev hi).and ((Evs.ev (eqCommit_tells a b c (by omega) (by omega))).and ((Evs.ev (eqCommit_tells x y n (by omega) (by omega))).and ((Evs.ev m0).and ((Evs.ev m1).and (Evs.ev hh)))))))).mono fun k ⟨d0, d1, d2, d3, d4, d5, d6, d7⟩ => ⟨t, ht, .inr ⟨hg, x, y, n, a, b, c, o, _, _, _, _, _, _, d0, d1, d2, d3, d4, d5, d6, d7, by omega, by omega⟩⟩).now

end Go.Proofs.Ytjefmihaiaimlaa.Pure
