/- The law FnExactRunBallots: the program's function tells what the reference tells, for all arguments; here: of the two as plain functions of numbers and lists. -/
import Derived.Test.YtbcogbhdeloijaaQFnExactRunBallots
namespace Go.Proofs.Ytbcogbhdeloijaa.Pure
open Go.RowKit Go.Proofs.Ytbcogbhdeloijaa.PFnExactRunBallots Go.Proofs.YtbcogbhdeloijaaW.PrintWords Go.Proofs.YtbcogbhdeloijaaW.PrintLast Go.Proofs.YtbcogbhdeloijaaW.PrintMore
set_option linter.unusedVariables false
set_option linter.unusedSimpArgs false
set_option linter.unnecessarySimpa false

theorem w64 {i : Int} (h0 : -9223372036854775808 ≤ i) (h1 : i ≤ 9223372036854775807) : wrap64 i = i := by
  unfold wrap64
  omega

theorem rdn (l : List Int) (i : Nat) : rd l (i : Int) = l.getD i 0 := by simp [rd]

/-- A round of a loop, then what it comes to. -/
theorem ev_step {α : Type} {g f : Nat → Option α} {r : α} (k : Ev f r) (h : ∀ k, g (k + 1) = f k) : Ev g r := Ev.step h k
theorem ev_some {α : Type} {g : Nat → Option α} {r : α} (h : ∀ k, g k = some r) : Ev g r := ⟨0, fun k _ => h k⟩
theorem ev_stop {α : Type} {g : Nat → Option α} {r : α} (h : ∀ k, g (k + 1) = some r) : Ev g r := Ev.step h (Ev.now r)
theorem ev_bind {α β : Type} {g : Nat → Option α} {f : Nat → α → Option β} {a : α} {r : β} (h : Ev g a) (k : Ev (fun n => f n a) r) : Ev (fun n => (g n).bind (f n)) r := Ev.bind h k
theorem ev_some_bind {α β : Type} {g : Option α} {f : Nat → α → Option β} {a : α} {r : β} (h : g = some a) (k : Ev (fun n => f n a) r) : Ev (fun n => g.bind (f n)) r := by
  subst h
  exact k
theorem ev_ite_pos {α : Type} {c : Prop} [Decidable c] {g f : Nat → Option α} {r : α} (hc : c) (h : Ev g r) : Ev (fun n => if c then g n else f n) r := Ev.congr (fun _ => if_pos hc) h
theorem ev_ite_neg {α : Type} {c : Prop} [Decidable c] {g f : Nat → Option α} {r : α} (hc : ¬ c) (h : Ev f r) : Ev (fun n => if c then g n else f n) r := Ev.congr (fun _ => if_neg hc) h

theorem within_tells (a b c : Int) : impl_within.f a b c = some (decide (b ≤ a) && decide (a ≤ c)) := by
  unfold impl_within.f
  by_cases h : a ≥ b
  · rw [if_pos h]; simp [show b ≤ a from h]
  · rw [if_neg h]; simp [show ¬ b ≤ a from h]

theorem sin_tells (a b c : Int) : spec_l1In.f a b c = some (decide (b ≤ a) && decide (a ≤ c)) := by
  unfold spec_l1In.f
  by_cases h : a ≥ b
  · rw [if_pos h]; simp [show b ≤ a from h]
  · rw [if_neg h]; simp [show ¬ b ≤ a from h]

def manyB (n : Int) : Bool := (decide (3 ≤ n) && decide (n ≤ 9)) && (Int.tmod n 2 == 1)
theorem many_tells (n : Int) : impl_isMany.f n = some (manyB n) := by
  unfold impl_isMany.f manyB
  rw [within_tells, Option.bind_some]
  cases (decide (3 ≤ n) && decide (n ≤ 9)) <;> simp
theorem smany_tells (n : Int) : spec_l11Places.f n = some (manyB n) := by
  unfold spec_l11Places.f manyB
  rw [sin_tells, Option.bind_some]
  cases (decide (3 ≤ n) && decide (n ≤ 9)) <;> simp
theorem many_bd {n : Int} (h : manyB n = true) : 3 ≤ n ∧ n ≤ 9 := by
  unfold manyB at h
  simp only [Bool.and_eq_true, decide_eq_true_eq] at h
  omega

def okAt (l : List Int) (a b : Int) (i : Nat) : Bool := (decide (a ≤ l.getD i 0) && decide (l.getD i 0 ≤ b)) && (decide (i = 0) || decide (l.getD (i - 1) 0 < l.getD i 0))
/-- Rising numbers from a to b. -/
def riseB (l : List Int) (a b : Int) : Bool := (List.range l.length).all (okAt l a b)
theorem rise_l (l : List Int) (a b : Int) (hl : l.length ≤ 4611686018427387904) : ∀ (d i : Nat), i + d = l.length → Ev (fun k => impl_isRising.l0 k l a b l (l.length : Int) (i : Int)) ((List.range' i d).all (okAt l a b))
  | 0, i, h => ev_stop fun k => by
    rw [impl_isRising.l0, if_neg (by omega)]
    rfl
  | d + 1, i, h => by
    have ih := rise_l l a b hl d (i + 1) (by omega)
    have h1 : wrap64 ((i : Int) + 1) = ((i + 1 : Nat) : Int) := by rw [w64 (by omega) (by omega)]; omega
    have key : ∀ k, impl_isRising.l0 (k + 1) l a b l (l.length : Int) (i : Int) = if okAt l a b i = true then impl_isRising.l0 k l a b l (l.length : Int) ((i + 1 : Nat) : Int) else some false := by
      intro k
      rw [impl_isRising.l0, if_pos (by omega), if_pos (by omega), if_pos (by omega), within_tells, Option.bind_some, h1, rdn]
      unfold okAt
      cases hw : (decide (a ≤ l.getD i 0) && decide (l.getD i 0 ≤ b)) with
      | false => simp
      | true =>
        rw [if_pos rfl]
        by_cases h0 : i = 0
        · rw [if_neg (by omega)]
          simp [h0]
        · have h2 : wrap64 ((i : Int) - 1) = ((i - 1 : Nat) : Int) := by rw [w64 (by omega) (by omega)]; omega
          rw [if_pos (by omega), h2, if_pos (by omega), if_pos (by omega), rdn]
          by_cases h3 : l.getD (i - 1) 0 ≥ l.getD i 0
          · rw [if_pos h3, if_neg]
            simp only [Bool.true_and, Bool.or_eq_true, decide_eq_true_eq]
            omega
          · rw [if_neg h3, if_pos]
            simp only [Bool.true_and, Bool.or_eq_true, decide_eq_true_eq]
            omega
    rw [List.range'_succ, List.all_cons]
    refine Ev.step key ?_
    cases okAt l a b i with
    | true => simpa using ih
    | false => exact ⟨0, fun k _ => by simp⟩
theorem rise_tells (l : List Int) (a b : Int) (hl : l.length ≤ 4611686018427387904) : Ev (fun k => impl_isRising.f k l a b) (riseB l a b) := by
  have h := rise_l l a b hl l.length 0 (by omega)
  unfold riseB
  rw [List.range_eq_range']
  exact h

def inB (a b x : Int) : Bool := decide (a ≤ x) && decide (x ≤ b)
theorem drop_at (l : List Int) (i : Nat) (h : i < l.length) : l.drop i = l.getD i 0 :: l.drop (i + 1) := by
  rw [List.drop_eq_getElem_cons h]
  simp [List.getD, List.getElem?_eq_getElem h]
/-- What a search for a fault comes to, round by round. -/
theorem all_ends {F : Nat → Nat → Option Bool} {p : Nat → Bool} {r : Bool} {n : Nat} (stop : Ev (fun k => F k n) r) (go : ∀ i, i < n → p i = true → ∀ q, Ev (fun k => F k (i + 1)) q → Ev (fun k => F k i) q) (no : ∀ i, i < n → p i = false → Ev (fun k => F k i) false) :
    ∀ (d i : Nat), i + d = n → Ev (fun k => F k i) ((List.range' i d).all p && r)
  | 0, i, h => by
    obtain rfl : i = n := by omega
    simpa using stop
  | d + 1, i, h => by
    have ih := all_ends stop go no d (i + 1) (by omega)
    rw [List.range'_succ, List.all_cons, Bool.and_assoc]
    cases hp : p i with
    | true => simpa using go i (by omega) hp _ ih
    | false => simpa using no i (by omega) hp
theorem all_from {F : Nat → Nat → Option Bool} {p : Nat → Bool} {r : Bool} {n : Nat} (stop : Ev (fun k => F k n) r) (go : ∀ i, i < n → p i = true → ∀ q, Ev (fun k => F k (i + 1)) q → Ev (fun k => F k i) q) (no : ∀ i, i < n → p i = false → Ev (fun k => F k i) false) :
    Ev (fun k => F k 0) ((List.range n).all p && r) := by
  rw [List.range_eq_range']
  exact all_ends stop go no n 0 (by omega)
theorem next (i : Nat) (h : i < 4611686018427387904) : wrap64 ((i : Int) + 1) = ((i + 1 : Nat) : Int) := by
  rw [w64 (by omega) (by omega)]
  omega

abbrev Ris (l : List Int) : Prop := l.Pairwise (· < ·)
theorem ris_of_next : ∀ {l : List Int}, (∀ i, i + 1 < l.length → l.getD i 0 < l.getD (i + 1) 0) → Ris l
  | [], _ => List.Pairwise.nil
  | [a], _ => by simp
  | a :: b :: l, h => by
    have h1 : Ris (b :: l) := ris_of_next fun i hi => by
      have := h (i + 1) (by simpa using hi)
      simpa using this
    have h2 := List.pairwise_cons.1 h1
    have hab : a < b := by simpa using h 0 (by simp)
    refine List.pairwise_cons.2 ⟨fun y hy => ?_, h1⟩
    rcases List.mem_cons.1 hy with e | e
    · omega
    · have := h2.1 y e
      omega
theorem rise_ris {l : List Int} {a b : Int} (h : riseB l a b = true) : Ris l ∧ ∀ x ∈ l, a ≤ x ∧ x ≤ b := by
  unfold riseB okAt at h
  simp only [List.all_eq_true, List.mem_range, Bool.and_eq_true, Bool.or_eq_true, decide_eq_true_eq] at h
  refine ⟨ris_of_next fun i hi => ?_, fun x hx => ?_⟩
  · have := (h (i + 1) hi).2
    rcases this with e | e
    · omega
    · simpa using e
  · obtain ⟨i, hi, rfl⟩ := List.mem_iff_getElem.1 hx
    have := (h i hi).1
    simpa [List.getD, List.getElem?_eq_getElem hi] using this

theorem rise_same : ∀ (k : Nat) (x0 : List Int) (x1 x2 : Int) (x9 : List Int) (x10 x11 : Int), spec_l1Rising.l0 k x0 x1 x2 x9 x10 x11 = impl_isRising.l0 k x0 x1 x2 x9 x10 x11
  | 0, _, _, _, _, _, _ => rfl
  | k + 1, x0, x1, x2, x9, x10, x11 => by
    rw [spec_l1Rising.l0, impl_isRising.l0]
    simp only [rise_same k]
    rfl
theorem srise_tells (l : List Int) (a b : Int) (hl : l.length ≤ 4611686018427387904) : Ev (fun k => spec_l1Rising.f k l a b) (riseB l a b) :=
  Ev.congr (fun k => rise_same k _ _ _ _ _ _) (rise_tells l a b hl)

/-- Numbers of places: rising, each the place of one. -/
structure Who (l : List S86) (who : List Int) : Prop where
  up : Ris who
  mem : ∀ w ∈ who, 0 ≤ w ∧ w < (l.length : Int)
theorem who_of {l : List S86} {who : List Int} (h : riseB who 0 ((l.length : Int) - 1) = true) : Who l who := by
  obtain ⟨u, m⟩ := rise_ris h
  exact ⟨u, fun w hw => by have := m w hw; omega⟩
theorem who_head {l : List S86} {who : List Int} (h : Who l who) (i : Nat) (hi : i < who.length) : 0 ≤ who.getD i 0 ∧ who.getD i 0 < (l.length : Int) ∧ ∀ w ∈ who.drop (i + 1), who.getD i 0 < w := by
  have hm : who.getD i 0 ∈ who := by
    rw [show who.getD i 0 = who[i] from by simp [List.getD, List.getElem?_eq_getElem hi]]
    exact List.getElem_mem hi
  have h1 := h.mem _ hm
  refine ⟨h1.1, h1.2, fun w hw => ?_⟩
  have h2 : Ris (who.drop i) := h.up.drop
  rw [drop_at who i hi] at h2
  exact (List.pairwise_cons.1 h2).1 w hw
theorem rdpl_set_ne (o : List S86) (v w : Int) (x : S86) (h0 : 0 ≤ v) (h : v < w) : rd_T86 (o.set v.toNat x) w = rd_T86 o w := by
  unfold rd_T86
  have hne : v.toNat ≠ w.toNat := by omega
  simp only [List.getD_eq_getElem?_getD, List.getElem?_set_ne hne]
theorem rdpl_set_eq (o : List S86) (v : Int) (x : S86) (h0 : 0 ≤ v) (h : v < (o.length : Int)) : rd_T86 (o.set v.toNat x) v = x := by
  unfold rd_T86
  have hl : v.toNat < o.length := by omega
  simp [List.getD, hl]
theorem ris_len : ∀ {l : List Int} {a b : Int}, Ris l → (∀ x ∈ l, a ≤ x ∧ x < b) → a ≤ b → (l.length : Int) ≤ b - a
  | [], a, b, _, _, h => by simpa using h
  | c :: l, a, b, hu, hm, h => by
    have h1 := List.pairwise_cons.1 hu
    have hc := hm c (by simp)
    have := ris_len (a := c + 1) (b := b) h1.2 (fun x hx => ⟨by have := h1.1 x hx; omega, (hm x (List.mem_cons_of_mem _ hx)).2⟩) (by omega)
    rw [List.length_cons]
    omega

def slowB (n : Int) : Int := wrap64 (wrap64 (Int.tdiv n 2) + 1)
theorem islow_tells (n : Int) : impl_slow.f n = some (slowB n) := rfl
theorem sslow_tells (n : Int) : spec_l11Slow.f n = some (slowB n) := rfl
theorem slow_pos {n : Int} (h0 : 3 ≤ n) (h1 : n ≤ 9) : 1 ≤ slowB n := by
  unfold slowB
  rw [Int.tdiv_eq_ediv_of_nonneg (by omega), w64 (i := n / 2) (by omega) (by omega), w64 (by omega) (by omega)]
  omega

def askGo (l : List S86) (no : Int) : List Int → List S86 → Nat → Int → Int → List S86 × Nat × Int
  | [], o, n, b1, b2 => (o, n, b2)
  | w :: r, o, n, b1, b2 => if (rd_T86 l w).f0 ≥ no then askGo l no r o n b1 b2 else if (rd_T86 l w).f1 > b1 then askGo l no r (o.set w.toNat ⟨no, (rd_T86 l w).f1, (rd_T86 l w).f2⟩) (n + 1) (rd_T86 l w).f1 (rd_T86 l w).f2 else askGo l no r (o.set w.toNat ⟨no, (rd_T86 l w).f1, (rd_T86 l w).f2⟩) (n + 1) b1 b2
theorem askGo_len (l : List S86) (no : Int) : ∀ (r : List Int) (o : List S86) (n : Nat) (b1 b2 : Int), (askGo l no r o n b1 b2).1.length = o.length
  | [], o, n, b1, b2 => rfl
  | w :: r, o, n, b1, b2 => by
    rw [askGo]
    split
    · exact askGo_len l no r o n b1 b2
    · split
      · rw [askGo_len, List.length_set]
      · rw [askGo_len, List.length_set]
/-- What is told: the word, where enough have promised. -/
def askTold (l : List S86) (s : List S86 × Nat × Int) : List S86 × Int × Bool := if (s.2.1 : Int) < slowB (l.length : Int) then (s.1, 0, false) else (s.1, s.2.2, true)
theorem ask_s (l : List S86) (no : Int) (who : List Int) (hw : Who l who) (hwl : who.length ≤ 1048576) : ∀ (d i : Nat) (o : List S86) (n : Nat) (b0 b1 b2 : Int), i + d = who.length → o.length = l.length → (∀ w ∈ who.drop i, rd_T86 o w = rd_T86 l w) → n ≤ i →
    Ev (fun k => spec_l12Ask.l0 k o no (n : Int) who (who.length : Int) (i : Int) b0 b1 b2) ((askTold l (askGo l no (who.drop i) o n b1 b2)).2.1, (askTold l (askGo l no (who.drop i) o n b1 b2)).2.2, (askTold l (askGo l no (who.drop i) o n b1 b2)).1)
  | 0, i, o, n, b0, b1, b2, h, ho, hk, hn => ev_stop fun k => by
    rw [spec_l12Ask.l0, if_neg (by omega), List.drop_of_length_le (by omega), sslow_tells, Option.bind_some, ho]
    unfold askGo askTold
    by_cases hc : (n : Int) < slowB (l.length : Int)
    · simp only [if_pos hc]
    · simp only [if_neg hc]
  | d + 1, i, o, n, b0, b1, b2, h, ho, hk, hn => by
    obtain ⟨w0, w1, w2⟩ := who_head hw i (by omega)
    rw [drop_at who i (by omega)] at hk ⊢
    have e := hk _ List.mem_cons_self
    have hk' := fun w hw => hk w (List.mem_cons_of_mem _ hw)
    rw [askGo]
    by_cases hc : (rd_T86 l (who.getD i 0)).f0 ≥ no
    · rw [if_pos hc]
      have ih := ask_s l no who hw hwl d (i + 1) o n b0 b1 b2 (by omega) ho hk' (by omega)
      exact ev_step ih fun k => by rw [spec_l12Ask.l0, if_pos (by omega), if_pos (by omega), if_pos (by omega), rdn, if_pos w0, if_pos (by omega), e, if_pos hc, next i (by omega)]
    · rw [if_neg hc]
      have hset : rd_T86 (o.set (who.getD i 0).toNat ⟨no, (rd_T86 l (who.getD i 0)).f1, (rd_T86 l (who.getD i 0)).f2⟩) (who.getD i 0) = ⟨no, (rd_T86 l (who.getD i 0)).f1, (rd_T86 l (who.getD i 0)).f2⟩ := rdpl_set_eq o _ _ w0 (by omega)
      have hk2 : ∀ w ∈ who.drop (i + 1), rd_T86 (o.set (who.getD i 0).toNat ⟨no, (rd_T86 l (who.getD i 0)).f1, (rd_T86 l (who.getD i 0)).f2⟩) w = rd_T86 l w := fun w hw => (rdpl_set_ne o _ w _ w0 (w2 w hw)).trans (hk' w hw)
      by_cases hb : (rd_T86 l (who.getD i 0)).f1 > b1
      · rw [if_pos hb]
        have ih := ask_s l no who hw hwl d (i + 1) _ (n + 1) no (rd_T86 l (who.getD i 0)).f1 (rd_T86 l (who.getD i 0)).f2 (by omega) (by rw [List.length_set]; exact ho) hk2 (by omega)
        exact ev_step ih fun k => by rw [spec_l12Ask.l0, if_pos (by omega), if_pos (by omega), if_pos (by omega), rdn, if_pos w0, if_pos (by omega), e, if_neg hc, Option.bind_some, hset, if_pos hb, next i (by omega), next n (by omega)]
      · rw [if_neg hb]
        have ih := ask_s l no who hw hwl d (i + 1) _ (n + 1) b0 b1 b2 (by omega) (by rw [List.length_set]; exact ho) hk2 (by omega)
        exact ev_step ih fun k => by rw [spec_l12Ask.l0, if_pos (by omega), if_pos (by omega), if_pos (by omega), rdn, if_pos w0, if_pos (by omega), e, if_neg hc, Option.bind_some, hset, if_neg hb, next i (by omega), next n (by omega)]
theorem ask_i (l : List S86) (no : Int) (who : List Int) (hw : Who l who) (hwl : who.length ≤ 1048576) : ∀ (d i : Nat) (o : List S86) (n : Nat) (b0 b1 b2 : Int), i + d = who.length → o.length = l.length → (∀ w ∈ who.drop i, rd_T86 o w = rd_T86 l w) → n ≤ i →
    Ev (fun k => impl_askPlaces.l0 k l no o (n : Int) who (who.length : Int) (i : Int) b0 b1 b2) (askTold l (askGo l no (who.drop i) o n b1 b2))
  | 0, i, o, n, b0, b1, b2, h, ho, hk, hn => ev_stop fun k => by
    rw [impl_askPlaces.l0, if_neg (by omega), List.drop_of_length_le (by omega), islow_tells, Option.bind_some]
    unfold askGo askTold
    by_cases hc : (n : Int) < slowB (l.length : Int)
    · simp only [if_pos hc]
    · simp only [if_neg hc]
  | d + 1, i, o, n, b0, b1, b2, h, ho, hk, hn => by
    obtain ⟨w0, w1, w2⟩ := who_head hw i (by omega)
    rw [drop_at who i (by omega)] at hk ⊢
    have e := hk _ List.mem_cons_self
    have hk' := fun w hw => hk w (List.mem_cons_of_mem _ hw)
    rw [askGo]
    by_cases hc : (rd_T86 l (who.getD i 0)).f0 ≥ no
    · rw [if_pos hc]
      have ih := ask_i l no who hw hwl d (i + 1) o n b0 b1 b2 (by omega) ho hk' (by omega)
      exact ev_step ih fun k => by rw [impl_askPlaces.l0, if_pos (by omega), if_pos (by omega), if_pos (by omega), rdn, if_pos w0, if_pos w1, if_pos hc, next i (by omega)]
    · rw [if_neg hc]
      have hk2 : ∀ w ∈ who.drop (i + 1), rd_T86 (o.set (who.getD i 0).toNat ⟨no, (rd_T86 l (who.getD i 0)).f1, (rd_T86 l (who.getD i 0)).f2⟩) w = rd_T86 l w := fun w hw => (rdpl_set_ne o _ w _ w0 (w2 w hw)).trans (hk' w hw)
      by_cases hb : (rd_T86 l (who.getD i 0)).f1 > b1
      · rw [if_pos hb]
        have ih := ask_i l no who hw hwl d (i + 1) _ (n + 1) (rd_T86 l (who.getD i 0)).f0 (rd_T86 l (who.getD i 0)).f1 (rd_T86 l (who.getD i 0)).f2 (by omega) (by rw [List.length_set]; exact ho) hk2 (by omega)
        exact ev_step ih fun k => by rw [impl_askPlaces.l0, if_pos (by omega), if_pos (by omega), if_pos (by omega), rdn, if_pos w0, if_pos w1, if_neg hc, if_pos (by omega), e, Option.bind_some, if_pos hb, next i (by omega), next n (by omega)]
      · rw [if_neg hb]
        have ih := ask_i l no who hw hwl d (i + 1) _ (n + 1) b0 b1 b2 (by omega) (by rw [List.length_set]; exact ho) hk2 (by omega)
        exact ev_step ih fun k => by rw [impl_askPlaces.l0, if_pos (by omega), if_pos (by omega), if_pos (by omega), rdn, if_pos w0, if_pos w1, if_neg hc, if_pos (by omega), e, Option.bind_some, if_neg hb, next i (by omega), next n (by omega)]
def askAll (l : List S86) (no : Int) (who : List Int) : List S86 × Int × Bool := askTold l (askGo l no who l 0 0 0)
theorem askAll_len (l : List S86) (no : Int) (who : List Int) : (askAll l no who).1.length = l.length := by
  unfold askAll askTold
  split <;> exact askGo_len l no who l 0 0 0
theorem iask_tells (l : List S86) (no : Int) (who : List Int) (hw : Who l who) (hl0 : 0 < l.length) (hl : l.length ≤ 1048576) : Ev (fun k => impl_askPlaces.f k l no who) (askAll l no who) := by
  have hwl := ris_len hw.up hw.mem (by omega)
  unfold impl_askPlaces.f impl_Place.f
  rw [if_pos ⟨hl0, by omega⟩]
  have h := ask_i l no who hw (by omega) who.length 0 l 0 0 0 0 (by omega) rfl (fun _ _ => rfl) (by omega)
  rw [List.drop_zero] at h
  exact h
theorem sask_tells (l : List S86) (no : Int) (who : List Int) (hw : Who l who) (hl : l.length ≤ 1048576) : Ev (fun k => spec_l12Ask.f k l no who) ((askAll l no who).2.1, (askAll l no who).2.2, (askAll l no who).1) := by
  have hwl := ris_len hw.up hw.mem (by omega)
  have h := ask_s l no who hw (by omega) who.length 0 l 0 0 0 0 (by omega) rfl (fun _ _ => rfl) (by omega)
  rw [List.drop_zero] at h
  exact h

def takeGo (l : List S86) (no word : Int) : List Int → List S86 → List Int → List S86 × List Int
  | [], o, t => (o, t)
  | w :: r, o, t => if (rd_T86 l w).f0 ≤ no then takeGo l no word r (o.set w.toNat ⟨no, no, word⟩) (t ++ [w]) else takeGo l no word r o t
theorem takeGo_len (l : List S86) (no word : Int) : ∀ (r : List Int) (o : List S86) (t : List Int), (takeGo l no word r o t).1.length = o.length ∧ (takeGo l no word r o t).2.length ≤ t.length + r.length
  | [], o, t => ⟨rfl, Nat.le_refl _⟩
  | w :: r, o, t => by
    rw [takeGo]
    split
    · have := takeGo_len l no word r (o.set w.toNat ⟨no, no, word⟩) (t ++ [w])
      rw [List.length_set, List.length_append] at this
      refine ⟨this.1, ?_⟩
      have := this.2
      simp only [List.length_cons, List.length_nil] at this ⊢
      omega
    · have := takeGo_len l no word r o t
      refine ⟨this.1, ?_⟩
      have := this.2
      simp only [List.length_cons] at this ⊢
      omega
theorem take_s (l : List S86) (no word : Int) (who : List Int) (hw : Who l who) (hwl : who.length ≤ 1048576) : ∀ (d i : Nat) (o : List S86) (t : List Int), i + d = who.length → o.length = l.length → (∀ w ∈ who.drop i, rd_T86 o w = rd_T86 l w) → t.length ≤ i →
    Ev (fun k => spec_l12Take.l0 k o no word t who (who.length : Int) (i : Int)) ((takeGo l no word (who.drop i) o t).2, (takeGo l no word (who.drop i) o t).1)
  | 0, i, o, t, h, ho, hk, ht => ev_stop fun k => by
    rw [spec_l12Take.l0, if_neg (by omega), List.drop_of_length_le (by omega)]
    rfl
  | d + 1, i, o, t, h, ho, hk, ht => by
    obtain ⟨w0, w1, w2⟩ := who_head hw i (by omega)
    rw [drop_at who i (by omega)] at hk ⊢
    have e := hk _ List.mem_cons_self
    have hk' := fun w hw => hk w (List.mem_cons_of_mem _ hw)
    rw [takeGo]
    by_cases hc : (rd_T86 l (who.getD i 0)).f0 ≤ no
    · rw [if_pos hc]
      have ih := take_s l no word who hw hwl d (i + 1) (o.set (who.getD i 0).toNat ⟨no, no, word⟩) (t ++ [who.getD i 0]) (by omega) (by rw [List.length_set]; exact ho) (fun w hw => (rdpl_set_ne o _ w _ w0 (w2 w hw)).trans (hk' w hw)) (by simp; omega)
      exact ev_step ih fun k => by rw [spec_l12Take.l0, if_pos (by omega), if_pos (by omega), if_pos (by omega), rdn, if_pos w0, if_pos (by omega), e, if_pos hc, if_pos (by omega), next i (by omega)]
    · rw [if_neg hc]
      have ih := take_s l no word who hw hwl d (i + 1) o t (by omega) ho hk' (by omega)
      exact ev_step ih fun k => by rw [spec_l12Take.l0, if_pos (by omega), if_pos (by omega), if_pos (by omega), rdn, if_pos w0, if_pos (by omega), e, if_neg hc, next i (by omega)]
theorem take_i (l : List S86) (no word : Int) (who : List Int) (hw : Who l who) (hwl : who.length ≤ 1048576) : ∀ (d i : Nat) (o : List S86) (t : List Int), i + d = who.length → o.length = l.length → t.length ≤ i →
    Ev (fun k => impl_takeWord.l0 k l no word o t who (who.length : Int) (i : Int)) (takeGo l no word (who.drop i) o t)
  | 0, i, o, t, h, ho, ht => ev_stop fun k => by
    rw [impl_takeWord.l0, if_neg (by omega), List.drop_of_length_le (by omega)]
    rfl
  | d + 1, i, o, t, h, ho, ht => by
    obtain ⟨w0, w1, w2⟩ := who_head hw i (by omega)
    rw [drop_at who i (by omega)]
    rw [takeGo]
    by_cases hc : (rd_T86 l (who.getD i 0)).f0 ≤ no
    · rw [if_pos hc]
      have ih := take_i l no word who hw hwl d (i + 1) (o.set (who.getD i 0).toNat ⟨no, no, word⟩) (t ++ [who.getD i 0]) (by omega) (by rw [List.length_set]; exact ho) (by simp; omega)
      exact ev_step ih fun k => by rw [impl_takeWord.l0, if_pos (by omega), if_pos (by omega), if_pos (by omega), rdn, if_pos w0, if_pos w1, if_pos hc, if_pos (by omega), if_pos (by omega), next i (by omega)]
    · rw [if_neg hc]
      have ih := take_i l no word who hw hwl d (i + 1) o t (by omega) ho (by omega)
      exact ev_step ih fun k => by rw [impl_takeWord.l0, if_pos (by omega), if_pos (by omega), if_pos (by omega), rdn, if_pos w0, if_pos w1, if_neg hc, next i (by omega)]
theorem itake_tells (l : List S86) (no word : Int) (who : List Int) (hw : Who l who) (hl0 : 0 < l.length) (hl : l.length ≤ 1048576) : Ev (fun k => impl_takeWord.f k l no word who) (takeGo l no word who l []) := by
  have hwl := ris_len hw.up hw.mem (by omega)
  unfold impl_takeWord.f impl_Place.f
  rw [if_pos ⟨hl0, by omega⟩]
  have h := take_i l no word who hw (by omega) who.length 0 l [] (by omega) rfl (by simp)
  rw [List.drop_zero] at h
  exact h
theorem stake_tells (l : List S86) (no word : Int) (who : List Int) (hw : Who l who) (hl : l.length ≤ 1048576) : Ev (fun k => spec_l12Take.f k l no word who) ((takeGo l no word who l []).2, (takeGo l no word who l []).1) := by
  have hwl := ris_len hw.up hw.mem (by omega)
  have h := take_s l no word who hw (by omega) who.length 0 l [] (by omega) rfl (fun _ _ => rfl) (by simp)
  rw [List.drop_zero] at h
  exact h

theorem iplaces_tells (n : Int) (who : List Int) (hw : who.length ≤ 1048576) (hM : manyB n = true) : Ev (fun k => impl_arePlaces.f k n who) (riseB who 0 (n - 1)) := by
  obtain ⟨a, b⟩ := many_bd hM
  unfold impl_arePlaces.f
  refine ev_some_bind (many_tells n) ?_
  rw [hM, w64 (i := n - 1) (by omega) (by omega)]
  exact ev_ite_pos rfl (ev_bind (rise_tells who _ _ (by omega)) (ev_some fun _ => rfl))

def ballotB (n no word : Int) (a b : List Int) : Bool := inB 1 40 no && (inB 1 99 word && (riseB a 0 (n - 1) && riseB b 0 (n - 1)))
theorem sballot_tells (n no word : Int) (a b : List Int) (h0 : 0 ≤ n) (h1 : n ≤ 1048576) (ha : a.length ≤ 1048576) (hb : b.length ≤ 1048576) : Ev (fun k => spec_l12Ballot.f k n no word a b) (ballotB n no word a b) := by
  have s1 : spec_l1In.f no 1 40 = some (inB 1 40 no) := sin_tells no 1 40
  have s2 : spec_l1In.f word 1 99 = some (inB 1 99 word) := sin_tells word 1 99
  unfold spec_l12Ballot.f ballotB
  rw [s1, s2, w64 (i := n - 1) (by omega) (by omega)]
  cases inB 1 40 no with
  | false => exact ev_some fun _ => rfl
  | true =>
    cases inB 1 99 word with
    | false => exact ev_some fun _ => rfl
    | true =>
      refine ev_some_bind rfl (ev_ite_pos rfl (ev_some_bind rfl (ev_ite_pos rfl (ev_bind (srise_tells a _ _ (by omega)) ?_))))
      cases riseB a 0 (n - 1) with
      | false => exact ev_ite_neg (by simp) (ev_some fun _ => by simp)
      | true => exact ev_ite_pos rfl (ev_bind (srise_tells b _ _ (by omega)) (ev_some fun _ => by simp))
theorem iballot_tells (n no word : Int) (a b : List Int) (hM : manyB n = true) (ha : a.length ≤ 1048576) (hb : b.length ≤ 1048576) : Ev (fun k => impl_Ballot_isGood.f k no word a b n) (ballotB n no word a b) := by
  have isb : impl_isBallot.f no = some (inB 1 40 no) := by
    unfold impl_isBallot.f
    rw [within_tells]
    rfl
  have isw : impl_isWord.f word = some (inB 1 99 word) := by
    unfold impl_isWord.f
    rw [within_tells]
    rfl
  unfold impl_Ballot_isGood.f ballotB
  rw [isb, isw]
  cases inB 1 40 no with
  | false => exact ev_some fun _ => rfl
  | true =>
    cases inB 1 99 word with
    | false => exact ev_some fun _ => rfl
    | true =>
      refine ev_some_bind rfl (ev_ite_pos rfl (ev_some_bind rfl (ev_ite_pos rfl (ev_bind (iplaces_tells n a ha hM) ?_))))
      cases riseB a 0 (n - 1) with
      | false => exact ev_ite_neg (by simp) (ev_some fun _ => by simp)
      | true => exact ev_ite_pos rfl (ev_bind (iplaces_tells n b hb hM) (ev_some fun _ => by simp))
theorem ballotB_who {l : List S86} {no word : Int} {a b : List Int} (h : ballotB (l.length : Int) no word a b = true) : Who l a ∧ ∀ o : List S86, o.length = l.length → Who o b := by
  unfold ballotB at h
  simp only [Bool.and_eq_true] at h
  refine ⟨who_of h.2.2.1, fun o ho => who_of ?_⟩
  rw [ho]
  exact h.2.2.2
def takeTold (l : List S86) (no w : Int) (b : List Int) (o : List S86) : List S86 × Int := if ((takeGo o no w b o []).2.length : Int) < slowB (l.length : Int) then ((takeGo o no w b o []).1, 0) else ((takeGo o no w b o []).1, w)
def runTold (l : List S86) (no word : Int) (a b : List Int) : List S86 × Int := if (askAll l no a).2.2 = true then (if (askAll l no a).2.1 = 0 then takeTold l no word b (askAll l no a).1 else takeTold l no (askAll l no a).2.1 b (askAll l no a).1) else ((askAll l no a).1, 0)
theorem takeTold_len (l : List S86) (no w : Int) (b : List Int) (o : List S86) : (takeTold l no w b o).1.length = o.length := by
  have h := (takeGo_len o no w b o []).1
  unfold takeTold
  generalize takeGo o no w b o [] = s at h ⊢
  split <;> exact h
theorem runTold_len (l : List S86) (no word : Int) (a b : List Int) : (runTold l no word a b).1.length = l.length := by
  have h := askAll_len l no a
  unfold runTold
  generalize askAll l no a = s at h ⊢
  obtain ⟨o, w, ok⟩ := s
  simp only at h ⊢
  split
  · split
    · rw [takeTold_len, h]
    · rw [takeTold_len, h]
  · exact h
theorem irun_tells (l : List S86) (no word : Int) (a b : List Int) (h : ballotB (l.length : Int) no word a b = true) (hl0 : 0 < l.length) (hl : l.length ≤ 1048576) : Ev (fun k => impl_runBallot.f k l no word a b) (runTold l no word a b) := by
  obtain ⟨wa, wb⟩ := ballotB_who h
  have hlen := askAll_len l no a
  have hA := iask_tells l no a wa hl0 hl
  unfold impl_runBallot.f runTold
  refine ev_bind hA ?_
  generalize askAll l no a = s at hlen ⊢
  obtain ⟨o, w, ok⟩ := s
  simp only at hlen ⊢
  have J : ∀ w, Ev (fun k => impl_runBallot.j0 k l o w no word a b) (takeTold l no w b o) := fun w => by
    refine Ev.step (fun k => by rw [impl_runBallot.j0]) ?_
    refine ev_bind (itake_tells o no w b (wb o hlen) (by omega) (by omega)) (ev_some_bind (islow_tells _) ?_)
    unfold takeTold
    generalize takeGo o no w b o [] = s
    obtain ⟨x, y⟩ := s
    by_cases hc : (y.length : Int) < slowB (l.length : Int)
    · refine ev_ite_pos hc ?_
      simp only [if_pos hc]
      exact ev_some fun _ => rfl
    · refine ev_ite_neg hc ?_
      simp only [if_neg hc]
      exact ev_some fun _ => rfl
  cases ok with
  | false => exact ev_ite_neg (by simp) (ev_some fun _ => by simp)
  | true =>
    refine ev_ite_pos rfl ?_
    rw [if_pos rfl]
    by_cases h0 : w = 0
    · rw [if_pos h0]
      exact ev_ite_pos h0 (J word)
    · rw [if_neg h0]
      exact ev_ite_neg h0 (J w)
theorem srun_tells (l : List S86) (no word : Int) (a b : List Int) (h : ballotB (l.length : Int) no word a b = true) (hl : l.length ≤ 1048576) : Ev (fun k => spec_l12Run.f k l no word a b) ((runTold l no word a b).2, (runTold l no word a b).1) := by
  obtain ⟨wa, wb⟩ := ballotB_who h
  have hlen := askAll_len l no a
  have hA := sask_tells l no a wa hl
  unfold spec_l12Run.f runTold
  refine ev_bind hA ?_
  generalize askAll l no a = s at hlen ⊢
  obtain ⟨o, w, ok⟩ := s
  simp only at hlen ⊢
  have J : ∀ w, Ev (fun k => spec_l12Run.j0 k o w no word a b) ((takeTold l no w b o).2, (takeTold l no w b o).1) := fun w => by
    refine Ev.step (fun k => by rw [spec_l12Run.j0]) ?_
    refine ev_bind (stake_tells o no w b (wb o hlen) (by omega)) (ev_some_bind (sslow_tells _) ?_)
    unfold takeTold
    rw [hlen]
    generalize takeGo o no w b o [] = s
    obtain ⟨x, y⟩ := s
    by_cases hc : (y.length : Int) < slowB (l.length : Int)
    · refine ev_ite_pos hc ?_
      simp only [if_pos hc]
      exact ev_some fun _ => rfl
    · refine ev_ite_neg hc ?_
      simp only [if_neg hc]
      exact ev_some fun _ => rfl
  cases ok with
  | false => exact ev_ite_neg (by simp) (ev_some fun _ => by simp)
  | true =>
    refine ev_ite_pos rfl ?_
    rw [if_pos rfl]
    by_cases h0 : w = 0
    · rw [if_pos h0]
      exact ev_ite_pos h0 (J word)
    · rw [if_neg h0]
      exact ev_ite_neg h0 (J w)

theorem szint (l : List Int) (a : Int) (h0 : 0 ≤ a) (h1 : a ≤ 1048576) (hl : l.length ≤ maxLen) : laws_szIntS.f l a = some (if a < (l.length : Int) then -1 else a - (l.length : Int)) := by
  have hm : maxLen ≤ 9223372036854775807 := by decide
  unfold laws_szIntS.f
  rw [w64 (by omega) (by omega)]
  split <;> split <;> first | rfl | omega

theorem toints_l (l : List Int) (hl : l.length ≤ 4611686018427387904) : ∀ (d i : Nat) (m : List Int), m.length = l.length → i + d = l.length → m.take i = l.take i → Ev (fun k => laws_toIntS.l0 k l m (i : Int)) l
  | 0, i, m, hm, h, ht => ev_stop fun k => by
    rw [laws_toIntS.l0, if_neg (by omega)]
    rw [List.take_of_length_le (by omega), List.take_of_length_le (by omega)] at ht
    rw [ht]
  | d + 1, i, m, hm, h, ht => by
    have h1 : wrap64 ((i : Int) + 1) = ((i + 1 : Nat) : Int) := by rw [w64 (by omega) (by omega)]; omega
    refine ev_step (toints_l l hl d (i + 1) (m.set i (l.getD i 0)) (by simpa using hm) (by omega) ?_) fun k => by
      rw [laws_toIntS.l0, if_pos (by omega), if_pos (by omega), if_pos (by omega), h1, rdn, Int.toNat_natCast]
    rw [List.take_succ_eq_append_getElem (by simp; omega), List.take_succ_eq_append_getElem (by omega), List.take_set_of_le (Nat.le_refl i), ht]
    simp [List.getD, List.getElem?_eq_getElem (show i < l.length by omega)]
theorem toints_tells (l : List Int) (hl : l.length ≤ 35184372088832) : Ev (fun k => laws_toIntS.f k l) l := by
  refine Ev.congr (g := fun k => laws_toIntS.f k l) (fun k => ?_) (toints_l l (by omega) l.length 0 (List.replicate l.length 0) (by simp) (by omega) (by simp))
  unfold laws_toIntS.f
  rw [if_pos (by omega), if_pos (by omega), Int.toNat_natCast]
  rfl

theorem eqints_l (l : List Int) (hl : l.length ≤ 4611686018427387904) : ∀ (d i : Nat), i + d = l.length → Ev (fun k => laws_eqIntS.l0 k l l (i : Int)) true
  | 0, i, h => ev_stop fun k => by
    rw [laws_eqIntS.l0, if_neg (by omega)]
  | d + 1, i, h => by
    have h1 : wrap64 ((i : Int) + 1) = ((i + 1 : Nat) : Int) := by rw [w64 (by omega) (by omega)]; omega
    refine ev_step (eqints_l l hl d (i + 1) (by omega)) fun k => by
      rw [laws_eqIntS.l0, if_pos (by omega), if_pos (by omega), if_pos (by omega), if_pos rfl, h1]
theorem eqints_tells (l : List Int) (hl : l.length ≤ 4611686018427387904) : Ev (fun k => laws_eqIntS.f k l l) true := by
  refine Ev.congr (g := fun k => laws_eqIntS.f k l l) (fun k => ?_) (eqints_l l hl l.length 0 (by omega))
  unfold laws_eqIntS.f
  rw [if_pos rfl]
  rfl

/-- The rising numbers from m on. -/
def upFrom (m : Int) : Nat → List Int
  | 0 => []
  | n + 1 => m :: upFrom (m + 1) n
theorem upFrom_len (m : Int) : ∀ n, (upFrom m n).length = n
  | 0 => rfl
  | n + 1 => by rw [upFrom, List.length_cons, upFrom_len (m + 1) n]
theorem take_set_succ (l : List Int) (i : Nat) (m : Int) (h : i < l.length) : (l.set i m).take (i + 1) = l.take i ++ [m] := by
  rw [List.take_succ_eq_append_getElem (by simpa using h), List.take_set_of_le (Nat.le_refl i)]
  simp
theorem markInt_l : ∀ (d i : Nat) (l : List Int) (m : Int), i + d = l.length → 0 ≤ m → m + d ≤ 4611686018427387903 → l.length ≤ 4611686018427387903 → Ev (fun k => laws_markIntS.l0 k l m (i : Int)) (m + d, l.take i ++ upFrom m d)
  | 0, i, l, m, h, _, _, _ => ev_stop fun k => by
    rw [laws_markIntS.l0, if_neg (by omega), List.take_of_length_le (by omega)]
    simp [upFrom]
  | d + 1, i, l, m, h, hm, hb, hl => by
    have ih := markInt_l d (i + 1) (l.set i m) (m + 1) (by simpa using by omega) (by omega) (by omega) (by simpa using hl)
    rw [take_set_succ l i m (by omega), List.append_assoc] at ih
    have e : m + 1 + (d : Int) = m + ((d + 1 : Nat) : Int) := by omega
    rw [e] at ih
    exact ev_step ih fun k => by rw [laws_markIntS.l0, if_pos (by omega), if_pos (by omega), w64 (by omega) (by omega), next i (by omega), Int.toNat_natCast]
theorem markInt_tells (l : List Int) (m : Int) (hm : 0 ≤ m) (hb : m + l.length ≤ 4611686018427387903) : Ev (fun k => laws_markIntS.f k l m) (m + l.length, upFrom m l.length) := by
  have h := markInt_l l.length 0 l m (by omega) hm hb (by omega)
  rw [List.take_zero, List.nil_append] at h
  exact h

theorem heldInt_l (l : List Int) (hl : l.length ≤ 4611686018427387903) : ∀ (d i : Nat) (m : Int), i + d = l.length → l.drop i = upFrom m d → 0 ≤ m → m + d ≤ 4611686018427387903 → Ev (fun k => laws_heldIntS.l0 k l m (i : Int)) (m + d)
  | 0, i, m, h, _, _, _ => ev_stop fun k => by
    rw [laws_heldIntS.l0, if_neg (by omega)]
    simp
  | d + 1, i, m, h, he, hm, hb => by
    rw [drop_at l i (by omega), upFrom] at he
    injection he with e1 e2
    have ih := heldInt_l l hl d (i + 1) (m + 1) (by omega) e2 (by omega) (by omega)
    have e : m + 1 + (d : Int) = m + ((d + 1 : Nat) : Int) := by omega
    rw [e] at ih
    exact ev_step ih fun k => by rw [laws_heldIntS.l0, if_pos (by omega), if_pos (by omega), rdn, if_pos e1, w64 (by omega) (by omega), next i (by omega)]
theorem heldInt_tells (m : Int) (n : Nat) (hm : 0 ≤ m) (hb : m + n ≤ 4611686018427387903) : Ev (fun k => laws_heldIntS.f k (upFrom m n) m) (m + n) := by
  have h := heldInt_l (upFrom m n) (by rw [upFrom_len]; omega) n 0 m (by rw [upFrom_len]; omega) (by simp) hm hb
  exact h

theorem eqPlace_l (l : List S86) (hl : l.length ≤ 4611686018427387903) : ∀ (d i : Nat), i + d = l.length → Ev (fun k => laws_eqPlaceS.l0 k l l (i : Int)) true
  | 0, i, h => ev_stop fun k => by
    rw [laws_eqPlaceS.l0, if_neg (by omega)]
  | d + 1, i, h => by
    refine ev_step (eqPlace_l l hl d (i + 1) (by omega)) fun k => by
      rw [laws_eqPlaceS.l0, if_pos (by omega), if_pos (by omega), if_pos (by omega)]
      unfold laws_eqPlace.f
      simp [next i (by omega)]
theorem eqPlace_tells (l : List S86) (hl : l.length ≤ 4611686018427387903) : Ev (fun k => laws_eqPlaceS.f k l l) true := by
  refine Ev.congr (g := fun k => laws_eqPlaceS.f k l l) (fun k => ?_) (eqPlace_l l hl l.length 0 (by omega))
  unfold laws_eqPlaceS.f
  rw [if_pos rfl]
  rfl

def upPlaces (m : Int) : Nat → List S86
  | 0 => []
  | n + 1 => ⟨m, m + 1, m + 2⟩ :: upPlaces (m + 3) n
theorem upPlaces_len (m : Int) : ∀ n, (upPlaces m n).length = n
  | 0 => rfl
  | n + 1 => by rw [upPlaces, List.length_cons, upPlaces_len (m + 3) n]
theorem rdPlace_set (l : List S86) (i : Nat) (v : S86) (h : i < l.length) : rd_T86 (l.set i v) i = v := by
  simp [rd_T86, List.getD, h]
theorem drop_place (l : List S86) (i : Nat) (h : i < l.length) : l.drop i = rd_T86 l i :: l.drop (i + 1) := by
  rw [List.drop_eq_getElem_cons h]
  simp [rd_T86, List.getD, List.getElem?_eq_getElem h]
theorem take_set_place (l : List S86) (i : Nat) (m : S86) (h : i < l.length) : (l.set i m).take (i + 1) = l.take i ++ [m] := by
  rw [List.take_succ_eq_append_getElem (by simpa using h), List.take_set_of_le (Nat.le_refl i)]
  simp
theorem markPlace_l : ∀ (d i : Nat) (l : List S86) (m : Int), i + d = l.length → l.length ≤ 4611686018427387903 → 0 ≤ m → m + 3 * d ≤ 4611686018427387903 → Ev (fun k => laws_markPlaceS.l0 k l m (i : Int)) (m + 3 * d, l.take i ++ upPlaces m d)
  | 0, i, l, m, h, _, _, _ => ev_stop fun k => by
    rw [laws_markPlaceS.l0, if_neg (by omega), List.take_of_length_le (by omega)]
    simp [upPlaces]
  | d + 1, i, l, m, h, hl, hm, hb => by
    have ih := markPlace_l d (i + 1) (l.set i ⟨m, m + 1, m + 2⟩) (m + 3) (by rw [List.length_set]; omega) (by rw [List.length_set]; omega) (by omega) (by omega)
    rw [take_set_place l i _ (by omega), List.append_assoc] at ih
    have e : m + 3 + 3 * (d : Int) = m + 3 * ((d + 1 : Nat) : Int) := by omega
    rw [e] at ih
    exact ev_step ih fun k => by
      rw [laws_markPlaceS.l0, if_pos (by omega), if_pos (by omega)]
      simp only [Option.bind_some, Int.toNat_natCast]
      rw [rdPlace_set _ _ _ (by omega)]
      rw [rdPlace_set _ _ _ (by rw [List.length_set]; omega)]
      simp only [List.set_set]
      rw [w64 (i := m + 1) (by omega) (by omega), w64 (i := m + 1 + 1) (by omega) (by omega), w64 (i := m + 1 + 1 + 1) (by omega) (by omega), next i (by omega), show m + 1 + 1 + 1 = m + 3 by omega, show m + 1 + 1 = m + 2 by omega]
theorem markPlace_tells (l : List S86) (m : Int) (hm : 0 ≤ m) (hb : m ≤ 1000000000) (hl : l.length ≤ 1048576) : Ev (fun k => laws_markPlaceS.f k l m) (m + 3 * l.length, upPlaces m l.length) := by
  have h := markPlace_l l.length 0 l m (by omega) (by omega) (by omega) (by omega)
  rw [List.take_zero, List.nil_append] at h
  exact h
theorem heldPlace_l (l : List S86) (hl : l.length ≤ 4611686018427387903) : ∀ (d i : Nat) (m : Int), i + d = l.length → l.drop i = upPlaces m d → 0 ≤ m → m + 3 * d ≤ 4611686018427387903 → Ev (fun k => laws_heldPlaceS.l0 k l m (i : Int)) (m + 3 * d)
  | 0, i, m, h, _, _, _ => ev_stop fun k => by
    rw [laws_heldPlaceS.l0, if_neg (by omega)]
    simp
  | d + 1, i, m, h, he, hm, hb => by
    rw [drop_place l i (by omega), upPlaces] at he
    injection he with e1 e2
    have ih := heldPlace_l l hl d (i + 1) (m + 3) (by omega) e2 (by omega) (by omega)
    have e : m + 3 + 3 * (d : Int) = m + 3 * ((d + 1 : Nat) : Int) := by omega
    rw [e] at ih
    exact ev_step ih fun k => by
      rw [laws_heldPlaceS.l0, if_pos (by omega), if_pos (by omega), e1, if_pos rfl, w64 (i := m + 1) (by omega) (by omega), if_pos rfl, w64 (i := m + 1 + 1) (by omega) (by omega), if_pos (show m + 2 = m + 1 + 1 by omega), w64 (i := m + 1 + 1 + 1) (by omega) (by omega), next i (by omega), show m + 1 + 1 + 1 = m + 3 by omega]
theorem heldPlace_tells (m : Int) (n : Nat) (hm : 0 ≤ m) (hb : m ≤ 1000000000) (hn : n ≤ 1048576) : Ev (fun k => laws_heldPlaceS.f k (upPlaces m n) m) (m + 3 * n) := by
  have h := heldPlace_l (upPlaces m n) (by rw [upPlaces_len]; omega) n 0 m (by rw [upPlaces_len]; omega) (by simp) hm (by omega)
  exact h

/-- What holds from some number of rounds on. -/
def Evs (P : Nat → Prop) : Prop := ∃ K, ∀ k, K ≤ k → P k
theorem Evs.and {P Q : Nat → Prop} (h : Evs P) (h2 : Evs Q) : Evs (fun k => P k ∧ Q k) := by
  obtain ⟨K, hK⟩ := h
  obtain ⟨L, hL⟩ := h2
  exact ⟨max K L, fun k hk => ⟨hK k (by omega), hL k (by omega)⟩⟩
theorem Evs.of {P : Prop} (h : P) : Evs (fun _ => P) := ⟨0, fun _ _ => h⟩
theorem Evs.ev {α : Type} {g : Nat → Option α} {r : α} (h : Ev g r) : Evs (fun k => g k = some r) := h
theorem Evs.now {P : Nat → Prop} (h : Evs P) : ∃ k, P k := by
  obtain ⟨K, hK⟩ := h
  exact ⟨K, hK K (Nat.le_refl _)⟩
theorem Evs.mono {P Q : Nat → Prop} (h : Evs P) (hq : ∀ k, P k → Q k) : Evs Q := by
  obtain ⟨K, hK⟩ := h
  exact ⟨K, fun k hk => hq k (hK k hk)⟩

def bsum : List S74 → Nat
  | [] => 0
  | b :: r => b.f2.length + b.f3.length + bsum r
theorem drop_lb (l : List S74) (i : Nat) (h : i < l.length) : l.drop i = l.getD i z74 :: l.drop (i + 1) := by
  rw [List.drop_eq_getElem_cons h, List.getD_eq_getElem?_getD, List.getElem?_eq_getElem h]
  rfl
theorem drop_ib (l : List S77) (i : Nat) (h : i < l.length) : l.drop i = l.getD i z77 :: l.drop (i + 1) := by
  rw [List.drop_eq_getElem_cons h, List.getD_eq_getElem?_getD, List.getElem?_eq_getElem h]
  rfl
theorem lb_mem (l : List S74) (i : Nat) (h : i < l.length) : l.getD i z74 ∈ l := by
  rw [List.getD_eq_getElem?_getD, List.getElem?_eq_getElem h]
  exact List.getElem_mem h
theorem ib_mem (l : List S77) (i : Nat) (h : i < l.length) : l.getD i z77 ∈ l := by
  rw [List.getD_eq_getElem?_getD, List.getElem?_eq_getElem h]
  exact List.getElem_mem h
theorem szb (b : S74) (t : Int) (h0 : 0 ≤ t) (h1 : t ≤ 1048576) (h2 : b.f2.length ≤ maxLen) (h3 : b.f3.length ≤ maxLen) : ∃ z, laws_szBallot.f b.f0 b.f1 b.f2 b.f3 t = some z ∧ (0 ≤ z → z = t - b.f2.length - b.f3.length) := by
  unfold laws_szBallot.f
  rw [szint b.f2 t h0 h1 h2, Option.bind_some]
  by_cases h : t < (b.f2.length : Int)
  · exact ⟨-1, by simp [h], by omega⟩
  · rw [if_neg h, if_neg (by omega), szint b.f3 _ (by omega) (by omega) h3, Option.bind_some]
    by_cases h2 : t - (b.f2.length : Int) < (b.f3.length : Int)
    · exact ⟨-1, by simp [h2], by omega⟩
    · rw [if_neg h2, if_neg (by omega)]
      exact ⟨_, rfl, by omega⟩
theorem szb_l (l : List S74) (hl : l.length ≤ 1048576) (hr : ∀ x ∈ l, x.f2.length ≤ maxLen ∧ x.f3.length ≤ maxLen) : ∀ (d i : Nat) (t : Int), i + d = l.length → 0 ≤ t → t ≤ 1048576 → ∃ u, Ev (fun k => laws_szBallotS.l0 k l t (i : Int)) u ∧ (0 ≤ u → (bsum (l.drop i) : Int) ≤ t)
  | 0, i, t, h, h0, h1 => ⟨t, ev_stop fun k => by rw [laws_szBallotS.l0, if_neg (by omega)], fun _ => by rw [List.drop_of_length_le (by omega)]; simpa [bsum] using h0⟩
  | d + 1, i, t, h, h0, h1 => by
    obtain ⟨q2, q3⟩ := hr _ (lb_mem l i (by omega))
    obtain ⟨z, hz, hz2⟩ := szb (l.getD i z74) t h0 h1 q2 q3
    have hx : rd_T74 l (i : Int) = l.getD i z74 := rfl
    by_cases hn : z < 0
    · exact ⟨-1, ev_stop fun k => by rw [laws_szBallotS.l0, if_pos (by omega), if_pos (by omega), hx, hz, Option.bind_some, if_pos hn], by omega⟩
    · have e := hz2 (by omega)
      obtain ⟨u, hu, hb⟩ := szb_l l hl hr d (i + 1) z (by omega) (by omega) (by omega)
      refine ⟨u, Ev.step (f := fun k => laws_szBallotS.l0 k l z ((i + 1 : Nat) : Int)) (fun k => by rw [laws_szBallotS.l0, if_pos (by omega), if_pos (by omega), hx, hz, Option.bind_some, if_neg hn, next i (by omega)]) hu, fun h5 => ?_⟩
      have := hb h5
      rw [drop_lb l i (by omega), bsum]
      omega
theorem bsum_mem : ∀ (l : List S74) (x : S74), x ∈ l → x.f2.length + x.f3.length ≤ bsum l
  | b :: r, x, h => by
    rw [bsum]
    rcases List.mem_cons.1 h with e | e
    · rw [e]; omega
    · have := bsum_mem r x e; omega
def convB (x : S74) : S77 := ⟨x.f0, x.f1, x.f2, x.f3⟩
theorem toB_l (l : List S74) (hl : l.length ≤ 1048576) (hr : ∀ x ∈ l, x.f2.length ≤ 1048576 ∧ x.f3.length ≤ 1048576) : ∀ (d i : Nat) (m : List S77), m.length = l.length → i + d = l.length → m.take i = (l.map convB).take i → Ev (fun k => laws_toBallotS.l0 k l m (i : Int)) (l.map convB)
  | 0, i, m, hm, h, ht => ev_stop fun k => by
    rw [laws_toBallotS.l0, if_neg (by omega)]
    rw [List.take_of_length_le (by omega), List.take_of_length_le (by simp; omega)] at ht
    rw [ht]
  | d + 1, i, m, hm, h, ht => by
    obtain ⟨q2, q3⟩ := hr _ (lb_mem l i (by omega))
    have hx : rd_T74 l (i : Int) = l.getD i z74 := rfl
    have hB : Ev (fun k => laws_toBallot.f k (l.getD i z74).f0 (l.getD i z74).f1 (l.getD i z74).f2 (l.getD i z74).f3) ((l.getD i z74).f0, (l.getD i z74).f1, (l.getD i z74).f2, (l.getD i z74).f3) := by
      unfold laws_toBallot.f
      exact ev_bind (toints_tells _ (by omega)) (ev_bind (toints_tells _ (by omega)) (ev_some fun _ => rfl))
    have ih := toB_l l hl hr d (i + 1) (m.set i (convB (l.getD i z74))) (by simpa using hm) (by omega) (by
      rw [List.take_succ_eq_append_getElem (by simp; omega), List.take_succ_eq_append_getElem (by simp; omega), List.take_set_of_le (Nat.le_refl i), ht]
      simp [List.getD, List.getElem?_eq_getElem (show i < l.length by omega)])
    refine Ev.step (f := fun k => (laws_toBallot.f k (l.getD i z74).f0 (l.getD i z74).f1 (l.getD i z74).f2 (l.getD i z74).f3).bind fun bt => laws_toBallotS.l0 k l (m.set i (⟨bt.1, bt.2.1, bt.2.2.1, bt.2.2.2⟩ : S77)) ((i + 1 : Nat) : Int)) (fun k => ?_) (ev_bind hB ih)
    rw [laws_toBallotS.l0, if_pos (by omega), if_pos (by omega), hx]
    have hq : (i : Int) < (m.length : Int) := by omega
    simp only [hq, if_true, next i (by omega), Int.toNat_natCast]
theorem toB_tells (l : List S74) (hl : l.length ≤ 1048576) (hr : ∀ x ∈ l, x.f2.length ≤ 1048576 ∧ x.f3.length ≤ 1048576) : Ev (fun k => laws_toBallotS.f k l) (l.map convB) := by
  refine Ev.congr (g := fun k => laws_toBallotS.f k l) (fun k => ?_) (toB_l l hl hr l.length 0 (List.replicate l.length z77) (by simp) (by omega) (by simp))
  unfold laws_toBallotS.f
  rw [if_pos (by omega), if_pos (by omega), Int.toNat_natCast]
  rfl
theorem eqB_l (l : List S77) (hl : l.length ≤ 1048576) (hr : ∀ x ∈ l, x.f2.length ≤ 1048576 ∧ x.f3.length ≤ 1048576) : ∀ (d i : Nat), i + d = l.length → Ev (fun k => laws_eqBallotS.l0 k l l (i : Int)) true
  | 0, i, h => ev_stop fun k => by rw [laws_eqBallotS.l0, if_neg (by omega)]
  | d + 1, i, h => by
    obtain ⟨q2, q3⟩ := hr _ (ib_mem l i (by omega))
    have hx : rd_T77 l (i : Int) = l.getD i z77 := rfl
    have hE : Ev (fun k => laws_eqBallot.f k (l.getD i z77).f0 (l.getD i z77).f1 (l.getD i z77).f2 (l.getD i z77).f3 (l.getD i z77).f0 (l.getD i z77).f1 (l.getD i z77).f2 (l.getD i z77).f3) true := by
      unfold laws_eqBallot.f
      exact ev_ite_pos rfl (ev_ite_pos rfl (ev_bind (eqints_tells _ (by omega)) (ev_ite_pos rfl (ev_bind (eqints_tells _ (by omega)) (ev_ite_pos rfl (ev_some fun _ => rfl))))))
    refine Ev.step (f := fun k => (laws_eqBallot.f k (l.getD i z77).f0 (l.getD i z77).f1 (l.getD i z77).f2 (l.getD i z77).f3 (l.getD i z77).f0 (l.getD i z77).f1 (l.getD i z77).f2 (l.getD i z77).f3).bind fun t => if t = true then laws_eqBallotS.l0 k l l ((i + 1 : Nat) : Int) else some false) (fun k => ?_) (ev_bind hE (ev_ite_pos rfl (eqB_l l hl hr d (i + 1) (by omega))))
    rw [laws_eqBallotS.l0, if_pos (by omega), if_pos (by omega), if_pos (by omega), hx, next i (by omega)]
theorem eqB_tells (l : List S77) (hl : l.length ≤ 1048576) (hr : ∀ x ∈ l, x.f2.length ≤ 1048576 ∧ x.f3.length ≤ 1048576) : Ev (fun k => laws_eqBallotS.f k l l) true := by
  refine Ev.congr (g := fun k => laws_eqBallotS.f k l l) (fun k => ?_) (eqB_l l hl hr l.length 0 (by omega))
  unfold laws_eqBallotS.f
  rw [if_pos rfl]
  rfl
def bud : Nat → Int
  | 0 => 0
  | d + 1 => bud d + 2097154
theorem bud_pos : ∀ d, 0 ≤ bud d
  | 0 => by rw [bud]; omega
  | d + 1 => by have := bud_pos d; rw [bud]; omega
theorem bud_le (d : Nat) : bud d = 2097154 * d := by
  induction d with
  | zero => rfl
  | succ d ih => rw [bud, ih]; omega
theorem markB_l (d : Nat) : ∀ (i : Nat) (l : List S77) (m : Int), i + d = l.length → (∀ x ∈ l, x.f2.length ≤ 1048576 ∧ x.f3.length ≤ 1048576) → l.length ≤ 1048576 → 0 ≤ m → m + bud d ≤ 4611686018427387903 → ∃ r, Ev (fun k => laws_markBallotS.l0 k l m (i : Int)) r ∧ 0 ≤ r.1 := by
  induction d with
  | zero =>
    intro i l m h _ _ h0 _
    exact ⟨(m, l), ev_stop fun k => by rw [laws_markBallotS.l0, if_neg (by omega)], h0⟩
  | succ d IH =>
    intro i l m h hr hl h0 hb
    have hb0 := bud_pos d
    rw [bud] at hb
    obtain ⟨q2, q3⟩ := hr _ (ib_mem l i (by omega))
    have w1 : wrap64 (m + 1) = m + 1 := w64 (by omega) (by omega)
    have w2 : wrap64 (wrap64 (m + 1) + 1) = m + 2 := by rw [w1, w64 (by omega) (by omega)]; omega
    have e1 := markInt_tells (l.getD i z77).f2 (m + 2) (by omega) (by omega)
    have e2 := markInt_tells (l.getD i z77).f3 (m + 2 + ((l.getD i z77).f2.length : Int)) (by omega) (by omega)
    have hl2 := upFrom_len (m + 2) (l.getD i z77).f2.length
    have hl3 := upFrom_len (m + 2 + ((l.getD i z77).f2.length : Int)) (l.getD i z77).f3.length
    generalize upFrom (m + 2) (l.getD i z77).f2.length = u2 at e1 hl2
    generalize upFrom (m + 2 + ((l.getD i z77).f2.length : Int)) (l.getD i z77).f3.length = u3 at e2 hl3
    obtain ⟨r, ih, hr0⟩ := IH (i + 1) (l.set i (⟨m, m + 1, u2, u3⟩ : S77)) (m + 2 + ((l.getD i z77).f2.length : Int) + ((l.getD i z77).f3.length : Int)) (by simp; omega) (fun x hx => by
      rcases List.mem_or_eq_of_mem_set hx with e | e
      · exact hr x e
      · rw [e]; exact ⟨by simp only; omega, by simp only; omega⟩) (by simpa using hl) (by omega) (by omega)
    refine ⟨r, Ev.step (f := fun k => (laws_markIntS.f k (l.getD i z77).f2 (m + 2)).bind fun b2 => (laws_markIntS.f k (l.getD i z77).f3 b2.1).bind fun b3 => laws_markBallotS.l0 k (l.set i (⟨m, m + 1, b2.2, b3.2⟩ : S77)) b3.1 ((i + 1 : Nat) : Int)) (fun k => ?_) (ev_bind e1 (ev_bind e2 ih)), hr0⟩
    rw [laws_markBallotS.l0, if_pos (by omega), if_pos (by omega), w2, w1, next i (by omega), Int.toNat_natCast]
theorem nat_bd {d : Nat} (h : d ≤ 1048576) : (1 : Int) + bud d ≤ 4611686018427387903 := by rw [bud_le]; omega
theorem markB_tells (l : List S77) (hr : ∀ x ∈ l, x.f2.length ≤ 1048576 ∧ x.f3.length ≤ 1048576) (hl : l.length ≤ 1048576) : ∃ r, Ev (fun k => laws_markBallotS.f k l 1) r ∧ 0 ≤ r.1 :=
  markB_l l.length 0 l 1 (by omega) hr hl (by omega) (nat_bd hl)
def okBal (n : Int) (l : List S77) (i : Nat) : Bool := ballotB n (l.getD i z77).f0 (l.getD i z77).f1 (l.getD i z77).f2 (l.getD i z77).f3 && (decide (i = 0) || decide ((l.getD (i - 1) z77).f0 < (l.getD i z77).f0))
def allBal (n : Int) (l : List S77) : Nat → Nat → Bool
  | 0, _ => true
  | d + 1, i => okBal n l i && allBal n l d (i + 1)
def runBal (l : List S77) : Nat → Nat → List S86 → List Int → List S86 × List Int
  | 0, _, ps, told => (ps, told)
  | d + 1, i, ps, told => runBal l d (i + 1) (runTold ps (l.getD i z77).f0 (l.getD i z77).f1 (l.getD i z77).f2 (l.getD i z77).f3).1 (told ++ [(runTold ps (l.getD i z77).f0 (l.getD i z77).f1 (l.getD i z77).f2 (l.getD i z77).f3).2])
theorem runBal_len (l : List S77) : ∀ (d i : Nat) (ps : List S86) (told : List Int), (runBal l d i ps told).1.length = ps.length ∧ (runBal l d i ps told).2.length = told.length + d
  | 0, _, _, _ => ⟨rfl, rfl⟩
  | d + 1, i, ps, told => by
    rw [runBal]
    obtain ⟨h1, h2⟩ := runBal_len l d (i + 1) (runTold ps (l.getD i z77).f0 (l.getD i z77).f1 (l.getD i z77).f2 (l.getD i z77).f3).1 (told ++ [(runTold ps (l.getD i z77).f0 (l.getD i z77).f1 (l.getD i z77).f2 (l.getD i z77).f3).2])
    rw [runTold_len] at h1
    rw [List.length_append, List.length_singleton] at h2
    exact ⟨h1, by omega⟩
theorem allBal_out {n : Int} {l : List S77} {d i : Nat} (h : allBal n l (d + 1) i = true) : ballotB n (l.getD i z77).f0 (l.getD i z77).f1 (l.getD i z77).f2 (l.getD i z77).f3 = true ∧ allBal n l d (i + 1) = true := by
  rw [allBal, Bool.and_eq_true] at h
  refine ⟨?_, h.2⟩
  have h1 := h.1
  unfold okBal at h1
  rw [Bool.and_eq_true] at h1
  exact h1.1
theorem srun_ok {n : Int} {ps : List S86} (hp : (ps.length : Int) = n) (h9 : n ≤ 9) {no word : Int} {a b : List Int} (hb : ballotB n no word a b = true) : Ev (fun k => spec_l12Run.f k ps no word a b) ((runTold ps no word a b).2, (runTold ps no word a b).1) := srun_tells ps no word a b (by rw [hp]; exact hb) (by omega)
theorem told_fits {told : List Int} (h : told.length ≤ 40) : told.length < 17592186044416 := by omega
theorem sbal_l1 (n : Int) (l : List S77) (hl : l.length ≤ 40) (d : Nat) : ∀ (i : Nat) (ps : List S86) (told : List Int), i + d = l.length → (ps.length : Int) = n → n ≤ 9 → told.length ≤ i → allBal n l d i = true → Ev (fun k => spec_RunBallots.l1 k ps told l (l.length : Int) (i : Int)) ((runBal l d i ps told).1, (runBal l d i ps told).2, true) := by
  induction d with
  | zero =>
    intro i  ps  told  h  _  _  _  _
    exact ev_stop fun k => by rw [spec_RunBallots.l1, if_neg (by omega)]; rfl
  | succ d IH =>
    intro i  ps  told  h  hp  h9  ht  ha
    obtain ⟨hb1, hb2⟩ := allBal_out ha
    have hx : rd_T77 l (i : Int) = l.getD i z77 := rfl
    have hs := srun_ok hp h9 hb1
    have hlt := told_fits (told := told) (by omega)
    have ih := IH (i + 1) (runTold ps (l.getD i z77).f0 (l.getD i z77).f1 (l.getD i z77).f2 (l.getD i z77).f3).1 (told ++ [(runTold ps (l.getD i z77).f0 (l.getD i z77).f1 (l.getD i z77).f2 (l.getD i z77).f3).2]) (by omega) (by rw [runTold_len]; exact hp) h9 (by rw [List.length_append, List.length_singleton]; omega) hb2
    rw [runBal]
    generalize runTold ps (l.getD i z77).f0 (l.getD i z77).f1 (l.getD i z77).f2 (l.getD i z77).f3 = rt at hs ih ⊢
    obtain ⟨o, w⟩ := rt
    simp only at hs ih ⊢
    refine Ev.step (f := fun k => (spec_l12Run.f k ps (l.getD i z77).f0 (l.getD i z77).f1 (l.getD i z77).f2 (l.getD i z77).f3).bind fun bt => spec_RunBallots.l1 k bt.2 (told ++ [bt.1]) l (l.length : Int) ((i + 1 : Nat) : Int)) (fun k => ?_) (ev_bind hs ih)
    rw [spec_RunBallots.l1, if_pos (by omega), if_pos (by omega), if_pos (by omega), hx, next i (by omega)]
    simp only [hlt, if_true]
theorem sbal_l0 (n : Int) (hn : manyB n = true) (l : List S77) (hl : l.length ≤ 40) (hr : ∀ x ∈ l, x.f2.length ≤ 1048576 ∧ x.f3.length ≤ 1048576) (ps : List S86) (q : List S86 × List Int × Bool) (d : Nat) : ∀ (i : Nat), i + d = l.length → (allBal n l d i = true → Ev (fun k => spec_RunBallots.l1 k ps [] l (l.length : Int) 0) q) → Ev (fun k => spec_RunBallots.l0 k n l ps l (l.length : Int) (i : Int)) (if allBal n l d i = true then q else ([], [], false)) := by
  induction d with
  | zero =>
    intro i  h  hq
    rw [allBal, if_pos rfl]
    exact Ev.step (f := fun k => spec_RunBallots.l1 k ps [] l (l.length : Int) 0) (fun k => by rw [spec_RunBallots.l0, if_neg (by omega)]) (hq rfl)
  | succ d IH =>
    intro i  h  hq
    obtain ⟨n3, n9⟩ := many_bd hn
    obtain ⟨q2, q3⟩ := hr _ (ib_mem l i (by omega))
    have hx : rd_T77 l (i : Int) = l.getD i z77 := rfl
    have hs := sballot_tells n (l.getD i z77).f0 (l.getD i z77).f1 (l.getD i z77).f2 (l.getD i z77).f3 (by omega) (by omega) q2 q3
    have ih := IH (i + 1) (by omega)
    rw [allBal] at hq ⊢
    unfold okBal at hq ⊢
    refine Ev.step (f := fun k => (spec_l12Ballot.f k n (l.getD i z77).f0 (l.getD i z77).f1 (l.getD i z77).f2 (l.getD i z77).f3).bind fun t => if t = true then (if (i : Int) > 0 then (if (l.getD (i - 1) z77).f0 ≥ (l.getD i z77).f0 then some (([] : List S86), ([] : List Int), false) else spec_RunBallots.l0 k n l ps l (l.length : Int) ((i + 1 : Nat) : Int)) else spec_RunBallots.l0 k n l ps l (l.length : Int) ((i + 1 : Nat) : Int)) else some (([] : List S86), ([] : List Int), false)) (fun k => ?_) (ev_bind hs ?_)
    · rw [spec_RunBallots.l0, if_pos (by omega), if_pos (by omega), if_pos (by omega), hx, next i (by omega)]
      by_cases hi : i = 0
      · subst hi
        rfl
      · have hw : wrap64 ((i : Int) - 1) = ((i - 1 : Nat) : Int) := by rw [w64 (by omega) (by omega)]; omega
        have h1 : (0 : Int) ≤ ((i - 1 : Nat) : Int) := by omega
        have h2 : ((i - 1 : Nat) : Int) < (l.length : Int) := by omega
        have hy : rd_T77 l ((i - 1 : Nat) : Int) = l.getD (i - 1) z77 := rfl
        simp only [hw, h1, h2, if_true, hy]
    · cases hb : ballotB n (l.getD i z77).f0 (l.getD i z77).f1 (l.getD i z77).f2 (l.getD i z77).f3 with
      | false =>
        rw [if_neg (by simp)]
        exact ev_ite_neg (by simp) (ev_some fun _ => rfl)
      | true =>
        rw [hb] at hq
        refine ev_ite_pos rfl ?_
        by_cases hi : i = 0
        · refine ev_ite_neg (by omega) ?_
          simp only [hi, decide_true, Bool.true_or, Bool.true_and, Nat.zero_add] at hq ih ⊢
          exact ih hq
        · refine ev_ite_pos (by omega) ?_
          by_cases hc : (l.getD (i - 1) z77).f0 < (l.getD i z77).f0
          · refine ev_ite_neg (by omega) ?_
            simp only [hc, decide_true, Bool.or_true, Bool.true_and] at hq ⊢
            exact ih hq
          · refine ev_ite_pos (by omega) ?_
            rw [decide_eq_false hi, decide_eq_false hc, if_neg (by simp)]
            exact ev_some fun _ => rfl
theorem ibal_l0 (n : Int) (hn : manyB n = true) (l : List S77) (hl : l.length ≤ 40) (hr : ∀ x ∈ l, x.f2.length ≤ 1048576 ∧ x.f3.length ≤ 1048576) (d : Nat) : ∀ (i : Nat) (ps : List S86) (told : List Int), i + d = l.length → (ps.length : Int) = n → told.length ≤ i → Ev (fun k => impl_RunBallots.l0 k n l ps told l (l.length : Int) (i : Int)) (if allBal n l d i = true then ((runBal l d i ps told).1, (runBal l d i ps told).2, true) else ([], [], false)) := by
  induction d with
  | zero =>
    intro i  ps  told  h  hp  ht
    exact ev_stop fun k => by rw [impl_RunBallots.l0, if_neg (by omega), allBal, if_pos rfl]; rfl
  | succ d IH =>
    intro i  ps  told  h  hp  ht
    obtain ⟨n3, n9⟩ := many_bd hn
    obtain ⟨q2, q3⟩ := hr _ (ib_mem l i (by omega))
    have hx : rd_T77 l (i : Int) = l.getD i z77 := rfl
    have hs := iballot_tells n (l.getD i z77).f0 (l.getD i z77).f1 (l.getD i z77).f2 (l.getD i z77).f3 hn q2 q3
    have ih := IH (i + 1) (runTold ps (l.getD i z77).f0 (l.getD i z77).f1 (l.getD i z77).f2 (l.getD i z77).f3).1 (told ++ [(runTold ps (l.getD i z77).f0 (l.getD i z77).f1 (l.getD i z77).f2 (l.getD i z77).f3).2]) (by omega) (by rw [runTold_len]; exact hp) (by rw [List.length_append, List.length_singleton]; omega)
    have hlt : told.length < 17592186044416 := by omega
    rw [allBal, runBal]
    unfold okBal
    refine Ev.step (f := fun k => (impl_Ballot_isGood.f k (l.getD i z77).f0 (l.getD i z77).f1 (l.getD i z77).f2 (l.getD i z77).f3 n).bind fun t => if t = true then (if (i : Int) > 0 then (if (l.getD (i - 1) z77).f0 ≥ (l.getD i z77).f0 then some (([] : List S86), ([] : List Int), false) else (impl_runBallot.f k ps (l.getD i z77).f0 (l.getD i z77).f1 (l.getD i z77).f2 (l.getD i z77).f3).bind fun bt => impl_RunBallots.l0 k n l bt.1 (told ++ [bt.2]) l (l.length : Int) ((i + 1 : Nat) : Int)) else (impl_runBallot.f k ps (l.getD i z77).f0 (l.getD i z77).f1 (l.getD i z77).f2 (l.getD i z77).f3).bind fun bt => impl_RunBallots.l0 k n l bt.1 (told ++ [bt.2]) l (l.length : Int) ((i + 1 : Nat) : Int)) else some (([] : List S86), ([] : List Int), false)) (fun k => ?_) (ev_bind hs ?_)
    · rw [impl_RunBallots.l0, if_pos (by omega), if_pos (by omega), if_pos (by omega), hx, next i (by omega)]
      by_cases hi : i = 0
      · subst hi
        simp only [hlt, if_true]
        rfl
      · have hw : wrap64 ((i : Int) - 1) = ((i - 1 : Nat) : Int) := by rw [w64 (by omega) (by omega)]; omega
        have h1 : (0 : Int) ≤ ((i - 1 : Nat) : Int) := by omega
        have h2 : ((i - 1 : Nat) : Int) < (l.length : Int) := by omega
        have hy : rd_T77 l ((i - 1 : Nat) : Int) = l.getD (i - 1) z77 := rfl
        simp only [hw, h1, h2, if_true, hy, hlt]
    · cases hb : ballotB n (l.getD i z77).f0 (l.getD i z77).f1 (l.getD i z77).f2 (l.getD i z77).f3 with
      | false =>
        rw [if_neg (by simp)]
        exact ev_ite_neg (by simp) (ev_some fun _ => rfl)
      | true =>
        have hrun := irun_tells ps (l.getD i z77).f0 (l.getD i z77).f1 (l.getD i z77).f2 (l.getD i z77).f3 (by rw [hp]; exact hb) (by omega) (by omega)
        refine ev_ite_pos rfl ?_
        by_cases hi : i = 0
        · refine ev_ite_neg (by omega) ?_
          simp only [hi, decide_true, Bool.true_or, Bool.true_and, Nat.zero_add] at hrun ih ⊢
          exact ev_bind hrun ih
        · refine ev_ite_pos (by omega) ?_
          by_cases hc : (l.getD (i - 1) z77).f0 < (l.getD i z77).f0
          · refine ev_ite_neg (by omega) ?_
            simp only [hc, decide_true, Bool.or_true, Bool.true_and]
            exact ev_bind hrun ih
          · refine ev_ite_pos (by omega) ?_
            rw [decide_eq_false hi, decide_eq_false hc, if_neg (by simp)]
            exact ev_some fun _ => rfl
theorem runballots_same (n : Int) (l : List S77) (hr : ∀ x ∈ l, x.f2.length ≤ 1048576 ∧ x.f3.length ≤ 1048576) : ∃ r : List S86 × List Int × Bool, Ev (fun k => spec_RunBallots.f k n l) r ∧ Ev (fun k => impl_RunBallots.f k n l) r ∧ r.1.length ≤ 9 ∧ r.2.1.length ≤ 40 := by
  have noS : ∀ ps, Ev (fun k => spec_RunBallots.j0 k n l ps true) ([], [], false) := fun ps => ev_stop fun k => by rw [spec_RunBallots.j0, if_pos rfl]
  have noI : ∀ ps, Ev (fun k => impl_RunBallots.j0 k n l ps true) ([], [], false) := fun ps => ev_stop fun k => by rw [impl_RunBallots.j0, if_pos rfl]
  unfold spec_RunBallots.f impl_RunBallots.f spec_NewPlaces.f impl_NewPlaces.f
  rw [smany_tells, many_tells]
  simp only [Option.bind_some]
  cases hn : manyB n with
  | false => exact ⟨([], [], false), ev_some_bind (by rw [if_neg (by simp)]) (ev_ite_neg (by simp) (noS _)), ev_some_bind (by rw [if_neg (by simp)]) (ev_ite_neg (by simp) (noI _)), by simp, by simp⟩
  | true =>
    obtain ⟨n3, n9⟩ := many_bd hn
    rw [if_pos rfl, if_pos (by omega), if_pos (by omega)]
    have hps : (((List.replicate n.toNat z86) : List S86).length : Int) = n := by rw [List.length_replicate]; omega
    generalize (List.replicate n.toNat z86 : List S86) = ps at hps
    by_cases hl : (l.length : Int) > 40
    · rw [decide_eq_true hl]
      exact ⟨([], [], false), ev_some_bind rfl (ev_ite_pos rfl (noS _)), ev_some_bind rfl (ev_ite_pos rfl (noI _)), by simp, by simp⟩
    · rw [decide_eq_false hl]
      have hs := sbal_l0 n hn l (by omega) hr ps ((runBal l l.length 0 ps []).1, (runBal l l.length 0 ps []).2, true) l.length 0 (by omega) (fun ha => sbal_l1 n l (by omega) l.length 0 ps [] (by omega) hps n9 (by simp) ha)
      have hi := ibal_l0 n hn l (by omega) hr l.length 0 ps [] (by omega) hps (by simp)
      obtain ⟨b1, b2⟩ := runBal_len l l.length 0 ps []
      rw [List.length_nil] at b2
      refine ⟨_, ev_some_bind rfl (ev_ite_pos rfl (Ev.step (fun k => by rw [spec_RunBallots.j0, if_neg (by simp)]; rfl) hs)), ev_some_bind rfl (ev_ite_pos rfl (Ev.step (fun k => by rw [impl_RunBallots.j0, if_neg (by simp)]; rfl) hi)), ?_, ?_⟩
      · split <;> simp <;> omega
      · split <;> simp <;> omega
theorem FnExactRunBallots : laws_FnExactRunBallots.Good := by
  rintro n l _ ⟨hl, hl2⟩
  unfold laws_FnExactRunBallots.Pass
  have hlm : ∀ x ∈ l, x.f2.length ≤ maxLen ∧ x.f3.length ≤ maxLen := fun x hx => by
    obtain ⟨_, _, ⟨h2, _⟩, ⟨h3, _⟩⟩ := hl2 x hx
    exact ⟨h2, h3⟩
  by_cases hbig : 1048576 - (l.length : Int) < 0
  · have hz : Ev (fun k => laws_szBallotS.f k l 1048576) (-1) := ev_some fun k => by
      unfold laws_szBallotS.f
      have hm := hl
      unfold maxLen at hm
      rw [w64 (by omega) (by omega), if_pos hbig]
    exact ((Evs.ev hz).mono fun k h => ⟨-1, h, .inl (by omega)⟩).now
  obtain ⟨t, ht, hb⟩ := szb_l l (by omega) hlm l.length 0 (1048576 - (l.length : Int)) (by omega) (by omega) (by omega)
  have hz : Ev (fun k => laws_szBallotS.f k l 1048576) t := by
    refine Ev.congr (g := fun k => laws_szBallotS.f k l 1048576) (fun k => ?_) ht
    unfold laws_szBallotS.f
    rw [w64 (by omega) (by omega), if_neg hbig]
    rfl
  by_cases h0 : t < 0
  · exact ((Evs.ev hz).mono fun k h => ⟨t, h, .inl h0⟩).now
  have hbs := hb (by omega)
  rw [List.drop_zero] at hbs
  have hr : ∀ x ∈ l, x.f2.length ≤ 1048576 ∧ x.f3.length ≤ 1048576 := fun x hx => by
    have := bsum_mem l x hx
    omega
  have tB := toB_tells l (by omega) hr
  have hr2 : ∀ x ∈ l.map convB, x.f2.length ≤ 1048576 ∧ x.f3.length ≤ 1048576 := fun x hx => by
    obtain ⟨y, hy, rfl⟩ := List.mem_map.1 hx
    exact hr y hy
  have hlen : (l.map convB).length ≤ 1048576 := by simp; omega
  generalize l.map convB = e at tB hr2 hlen
  obtain ⟨⟨x, y, b⟩, hs, hi, hx, hy⟩ := runballots_same n e hr2
  simp only at hx hy
  obtain ⟨⟨rB, zB⟩, mB, hrB⟩ := markB_tells e hr2 hlen
  simp only at hrB
  have m1 := markPlace_tells x 1 (by omega) (by omega) (by omega)
  have m2 := markInt_tells y (1 + 3 * x.length) (by omega) (by omega)
  have m3 := heldPlace_tells 1 x.length (by omega) (by omega) (by omega)
  have m4 := heldInt_tells (1 + 3 * x.length) y.length (by omega) (by omega)
  exact (((Evs.ev hz).and ((Evs.ev tB).and ((Evs.ev hs).and ((Evs.ev hi).and ((Evs.ev (eqPlace_tells x (by omega))).and ((Evs.ev (eqints_tells y (by omega))).and ((Evs.ev (eqB_tells e hlen hr2)).and ((Evs.ev mB).and ((Evs.ev m1).and ((Evs.ev m2).and ((Evs.ev m3).and (Evs.ev m4)))))))))))).mono fun k ⟨c0, c1, c2, c3, c4, c5, c6, c7, c8, c9, c10, c11⟩ => ⟨t, c0, .inr ⟨h0, _, _, _, _, _, _, _, _, _, _, c1, c2, c3, c4, c5, c6, c7, c8, c9, c10, c11, by omega, by omega, by omega⟩⟩).now

end Go.Proofs.Ytbcogbhdeloijaa.Pure
